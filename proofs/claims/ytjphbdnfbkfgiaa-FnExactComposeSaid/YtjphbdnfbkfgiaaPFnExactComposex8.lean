-- Written by a program of this session: the kit's printer, turned by wip/mkprint.py.
import Derived.Test.YtjphbdnfbkfgiaaPFnExactComposex0
import Derived.Test.YtjphbdnfbkfgiaaPFnExactComposex1
import Derived.Test.YtjphbdnfbkfgiaaPFnExactComposex4
import Derived.Test.YtjphbdnfbkfgiaaPFnExactComposex6
import Derived.Test.YtjphbdnfbkfgiaaPFnExactComposex7
namespace Go.Proofs.Ytjphbdnfbkfgiaa.PFnExactCompose
open Go.RowKit Go.Proofs.YtjphbdnfbkfgiaaW.PrintWords Go.Proofs.YtjphbdnfbkfgiaaW.PrintLast Go.Proofs.YtjphbdnfbkfgiaaW.PrintMore
attribute [local go_sem] max2_int min2_int max_two min_two max_three min_three max_four min_four   -- for this text's walks alone
set_option linter.unusedVariables false
set_option linter.unusedSimpArgs false

/-! ### laws_FnExactCompose: function 6 -/
mutual
def laws_FnExactCompose.j0 : Nat → Bool → Bool → Bool → List Int → List Int → List Int → List Int → List Int → List Int → List Int → List Int → List Int → List Int → List Int → List Int → Option (Bool)
 | 0, _, _, _, _, _, _, _, _, _, _, _, _, _, _, _ => none
 | k + 1, x7, x11, x53, x219000, x219001, x220000, x220001, x242000, x242001, x249000, x249001, x256000, x256001, x264000, x264001 => if x53 = true then (some false) else ((laws_toSubstitution.f k x219000 x219001).bind fun bt265 => ((laws_eqSubstitution.f k x249000 x249001 bt265.1 bt265.2).bind fun t271 => (if t271 = true then ((laws_toSubstitution.f k x220000 x220001).bind fun bt272 => ((laws_eqSubstitution.f k x256000 x256001 bt272.1 bt272.2).bind fun t278 => (if t278 = true then ((laws_markSubstitution.f k x249000 x249001 1).bind fun bt279 => ((laws_markSubstitution.f k x256000 x256001 bt279.1).bind fun bt282 => (if bt282.1 < 0 then (laws_FnExactCompose.j1 k x7 true x219000 x219001 x220000 x220001 x242000 x242001 x264000 x264001) else ((laws_eqSubstitution.f k x264000 x264001 x242000 x242001).bind fun t285 => (if t285 = true then (laws_FnExactCompose.j1 k x7 (x11 != x7) x219000 x219001 x220000 x220001 x242000 x242001 x264000 x264001) else (laws_FnExactCompose.j1 k x7 true x219000 x219001 x220000 x220001 x242000 x242001 x264000 x264001)))))) else (some false)))) else (some false))))
def laws_FnExactCompose.j1 : Nat → Bool → Bool → List Int → List Int → List Int → List Int → List Int → List Int → List Int → List Int → Option (Bool)
 | 0, _, _, _, _, _, _, _, _, _, _ => none
 | k + 1, x7, x82, x219000, x219001, x220000, x220001, x242000, x242001, x264000, x264001 => if x82 = true then (some false) else ((laws_markSubstitution.f k x264000 x264001 1).bind fun bt286 => ((laws_heldSubstitution.f k bt286.2.1 bt286.2.2 1).bind fun t289 => (if t289 < 0 then (some false) else (if t289 = bt286.1 then ((laws_toSubstitution.f k x219000 x219001).bind fun bt290 => ((laws_toSubstitution.f k x220000 x220001).bind fun bt296 => ((impl_Compose.f k bt290.1 bt290.2 bt296.1 bt296.2).bind fun bt302 => ((laws_eqSubstitution.f k bt302.1 bt302.2.1 x242000 x242001).bind fun t310 => (if t310 = true then (laws_FnExactCompose.j2 k bt286.1 (bt302.2.2 != x7) bt286.2.1 bt286.2.2) else (laws_FnExactCompose.j2 k bt286.1 true bt286.2.1 bt286.2.2)))))) else (some false)))))
def laws_FnExactCompose.j2 : Nat → Int → Bool → List Int → List Int → Option (Bool)
 | 0, _, _, _, _ => none
 | k + 1, x13, x110, x264000, x264001 => if x110 = true then (some false) else ((laws_heldSubstitution.f k x264000 x264001 1).bind fun t311 => (if t311 < 0 then (some false) else (if t311 = x13 then (some true) else (some false))))
end
def laws_FnExactCompose.f (k : Nat) (l0_0 : List Int) (l0_1 : List Int) (l1_0 : List Int) (l1_1 : List Int) : Option (Bool) := (laws_szSubstitution.f l0_0 l0_1 1048576).bind fun t220 => (if t220 < 0 then (some true) else ((laws_szSubstitution.f l1_0 l1_1 t220).bind fun t221 => (if t221 < 0 then (some true) else ((laws_toSubstitution.f k l0_0 l0_1).bind fun bt222 => ((laws_toSubstitution.f k l1_0 l1_1).bind fun bt228 => ((spec_Compose.f k bt222.1 bt222.2 bt228.1 bt228.2).bind fun bt234 => ((laws_toSubstitution.f k l0_0 l0_1).bind fun bt242 => ((laws_toSubstitution.f k l1_0 l1_1).bind fun bt249 => ((impl_Compose.f k bt242.1 bt242.2 bt249.1 bt249.2).bind fun bt256 => ((laws_eqSubstitution.f k bt256.1 bt256.2.1 bt234.1 bt234.2.1).bind fun t264 => (if t264 = true then (laws_FnExactCompose.j0 k bt234.2.2 bt256.2.2 (bt256.2.2 != bt234.2.2) l0_0 l0_1 l1_0 l1_1 bt234.1 bt234.2.1 bt242.1 bt242.2 bt249.1 bt249.2 bt256.1 bt256.2.1) else (laws_FnExactCompose.j0 k bt234.2.2 bt256.2.2 true l0_0 l0_1 l1_0 l1_1 bt234.1 bt234.2.1 bt242.1 bt242.2 bt249.1 bt249.2 bt256.1 bt256.2.1))))))))))))
theorem laws_FnExactCompose.mono_l : ∀ k, (∀ y0 y1 y2 y3 y4 y5 y6 y7 y8 y9 y10 y11 y12 y13 y14, LeO (laws_FnExactCompose.j0 k y0 y1 y2 y3 y4 y5 y6 y7 y8 y9 y10 y11 y12 y13 y14) (laws_FnExactCompose.j0 (k + 1) y0 y1 y2 y3 y4 y5 y6 y7 y8 y9 y10 y11 y12 y13 y14)) ∧ (∀ y0 y1 y2 y3 y4 y5 y6 y7 y8 y9, LeO (laws_FnExactCompose.j1 k y0 y1 y2 y3 y4 y5 y6 y7 y8 y9) (laws_FnExactCompose.j1 (k + 1) y0 y1 y2 y3 y4 y5 y6 y7 y8 y9)) ∧ (∀ y0 y1 y2 y3, LeO (laws_FnExactCompose.j2 k y0 y1 y2 y3) (laws_FnExactCompose.j2 (k + 1) y0 y1 y2 y3))
 | 0 => ⟨fun _ _ _ _ _ _ _ _ _ _ _ _ _ _ _ r h => by simp [laws_FnExactCompose.j0] at h, fun _ _ _ _ _ _ _ _ _ _ r h => by simp [laws_FnExactCompose.j1] at h, fun _ _ _ _ r h => by simp [laws_FnExactCompose.j2] at h⟩
 | k + 1 => by
  obtain ⟨ih0,ih1,ih2⟩:=laws_FnExactCompose.mono_l k
  refine ⟨?_,?_,?_⟩
  ·intro y0 y1 y2 y3 y4 y5 y6 y7 y8 y9 y10 y11 y12 y13 y14
   unfold laws_FnExactCompose.j0
   repeat' first
   | (with_reducible exact ih0 _ _ _ _ _ _ _ _ _ _ _ _ _ _ _)
   | (with_reducible exact ih1 _ _ _ _ _ _ _ _ _ _)
   | (with_reducible exact ih2 _ _ _ _)
   | (with_reducible exact impl_Compose.mono _ _ _ _ _)
   | (with_reducible exact laws_eqSubstitution.mono _ _ _ _ _)
   | (with_reducible exact laws_heldSubstitution.mono _ _ _ _)
   | (with_reducible exact laws_markSubstitution.mono _ _ _ _)
   | (with_reducible exact laws_toSubstitution.mono _ _ _)
   | (with_reducible exact spec_Compose.mono _ _ _ _ _)
   | (with_reducible exact LeO.refl _)
   | (with_reducible exact LeO.none _)
   | (with_reducible refine LeO.ite ?_ ?_)
   | (with_reducible refine LeO.bind ?_ (fun _ => ?_))
   | exact ih0 _ _ _ _ _ _ _ _ _ _ _ _ _ _ _
   | exact ih1 _ _ _ _ _ _ _ _ _ _
   | exact ih2 _ _ _ _
   | exact impl_Compose.mono _ _ _ _ _
   | exact laws_eqSubstitution.mono _ _ _ _ _
   | exact laws_heldSubstitution.mono _ _ _ _
   | exact laws_markSubstitution.mono _ _ _ _
   | exact laws_toSubstitution.mono _ _ _
   | exact spec_Compose.mono _ _ _ _ _
   | exact LeO.none _
   | refine LeO.ite ?_ ?_
   | refine LeO.bind ?_ (fun _ => ?_)
  ·intro y0 y1 y2 y3 y4 y5 y6 y7 y8 y9
   unfold laws_FnExactCompose.j1
   repeat' first
   | (with_reducible exact ih0 _ _ _ _ _ _ _ _ _ _ _ _ _ _ _)
   | (with_reducible exact ih1 _ _ _ _ _ _ _ _ _ _)
   | (with_reducible exact ih2 _ _ _ _)
   | (with_reducible exact impl_Compose.mono _ _ _ _ _)
   | (with_reducible exact laws_eqSubstitution.mono _ _ _ _ _)
   | (with_reducible exact laws_heldSubstitution.mono _ _ _ _)
   | (with_reducible exact laws_markSubstitution.mono _ _ _ _)
   | (with_reducible exact laws_toSubstitution.mono _ _ _)
   | (with_reducible exact spec_Compose.mono _ _ _ _ _)
   | (with_reducible exact LeO.refl _)
   | (with_reducible exact LeO.none _)
   | (with_reducible refine LeO.ite ?_ ?_)
   | (with_reducible refine LeO.bind ?_ (fun _ => ?_))
   | exact ih0 _ _ _ _ _ _ _ _ _ _ _ _ _ _ _
   | exact ih1 _ _ _ _ _ _ _ _ _ _
   | exact ih2 _ _ _ _
   | exact impl_Compose.mono _ _ _ _ _
   | exact laws_eqSubstitution.mono _ _ _ _ _
   | exact laws_heldSubstitution.mono _ _ _ _
   | exact laws_markSubstitution.mono _ _ _ _
   | exact laws_toSubstitution.mono _ _ _
   | exact spec_Compose.mono _ _ _ _ _
   | exact LeO.none _
   | refine LeO.ite ?_ ?_
   | refine LeO.bind ?_ (fun _ => ?_)
  ·intro y0 y1 y2 y3
   unfold laws_FnExactCompose.j2
   repeat' first
   | (with_reducible exact ih0 _ _ _ _ _ _ _ _ _ _ _ _ _ _ _)
   | (with_reducible exact ih1 _ _ _ _ _ _ _ _ _ _)
   | (with_reducible exact ih2 _ _ _ _)
   | (with_reducible exact impl_Compose.mono _ _ _ _ _)
   | (with_reducible exact laws_eqSubstitution.mono _ _ _ _ _)
   | (with_reducible exact laws_heldSubstitution.mono _ _ _ _)
   | (with_reducible exact laws_markSubstitution.mono _ _ _ _)
   | (with_reducible exact laws_toSubstitution.mono _ _ _)
   | (with_reducible exact spec_Compose.mono _ _ _ _ _)
   | (with_reducible exact LeO.refl _)
   | (with_reducible exact LeO.none _)
   | (with_reducible refine LeO.ite ?_ ?_)
   | (with_reducible refine LeO.bind ?_ (fun _ => ?_))
   | exact ih0 _ _ _ _ _ _ _ _ _ _ _ _ _ _ _
   | exact ih1 _ _ _ _ _ _ _ _ _ _
   | exact ih2 _ _ _ _
   | exact impl_Compose.mono _ _ _ _ _
   | exact laws_eqSubstitution.mono _ _ _ _ _
   | exact laws_heldSubstitution.mono _ _ _ _
   | exact laws_markSubstitution.mono _ _ _ _
   | exact laws_toSubstitution.mono _ _ _
   | exact spec_Compose.mono _ _ _ _ _
   | exact LeO.none _
   | refine LeO.ite ?_ ?_
   | refine LeO.bind ?_ (fun _ => ?_)
theorem laws_FnExactCompose.mono : ∀ a0 a1 a2 a3 k, LeO (laws_FnExactCompose.f k a0 a1 a2 a3) (laws_FnExactCompose.f (k + 1) a0 a1 a2 a3) := by
 intro a0 a1 a2 a3 k
 obtain ⟨ih0,ih1,ih2⟩:=laws_FnExactCompose.mono_l k
 unfold laws_FnExactCompose.f
 repeat' first
   | (with_reducible exact ih0 _ _ _ _ _ _ _ _ _ _ _ _ _ _ _)
   | (with_reducible exact ih1 _ _ _ _ _ _ _ _ _ _)
   | (with_reducible exact ih2 _ _ _ _)
   | (with_reducible exact impl_Compose.mono _ _ _ _ _)
   | (with_reducible exact laws_eqSubstitution.mono _ _ _ _ _)
   | (with_reducible exact laws_heldSubstitution.mono _ _ _ _)
   | (with_reducible exact laws_markSubstitution.mono _ _ _ _)
   | (with_reducible exact laws_toSubstitution.mono _ _ _)
   | (with_reducible exact spec_Compose.mono _ _ _ _ _)
   | (with_reducible exact LeO.refl _)
   | (with_reducible exact LeO.none _)
   | (with_reducible refine LeO.ite ?_ ?_)
   | (with_reducible refine LeO.bind ?_ (fun _ => ?_))
   | exact ih0 _ _ _ _ _ _ _ _ _ _ _ _ _ _ _
   | exact ih1 _ _ _ _ _ _ _ _ _ _
   | exact ih2 _ _ _ _
   | exact impl_Compose.mono _ _ _ _ _
   | exact laws_eqSubstitution.mono _ _ _ _ _
   | exact laws_heldSubstitution.mono _ _ _ _
   | exact laws_markSubstitution.mono _ _ _ _
   | exact laws_toSubstitution.mono _ _ _
   | exact spec_Compose.mono _ _ _ _ _
   | exact LeO.none _
   | refine LeO.ite ?_ ?_
   | refine LeO.bind ?_ (fun _ => ?_)
def laws_FnExactCompose.T8 : Bool × List (List Nat × List Nat) := (true, [([], []), ([0], [0]), ([], []), ([2, 1], [2]), ([1, 3, 3], [1, 3]), ([4], [4]), ([5], [5]), ([5], [5]), ([], []), ([8, 6, 4, 0, 1, 2, 3, 4, 5, 6, 8], [6, 8]), ([7, 9, 0, 1, 2, 3, 4, 5, 6, 7, 8, 9], [7])])
def laws_FnExactCompose.B8 : List Nat := [0, 1, 0, 7, 15, 31, 63, 63, 0, 383, 1023]
theorem laws_FnExactCompose.tab8 : rtab .any (opsOf Try.f6 8) = laws_FnExactCompose.T8 := by kernel_rfl
theorem laws_FnExactCompose.bits8 : waitsOk laws_FnExactCompose.T8.2 laws_FnExactCompose.B8 = true := by kernel_rfl
def laws_FnExactCompose.T31 : Bool × List (List Nat × List Nat) := (true, [([], []), ([0], [0]), ([], []), ([2, 1], [2]), ([1, 3, 3], [1, 3]), ([4], [4]), ([5], [5]), ([5], [5]), ([], []), ([8, 6, 4, 0, 1, 2, 3, 4, 5, 6, 8], [6, 8]), ([7, 9, 0, 1, 2, 3, 4, 5, 6, 7, 8, 9], [7])])
def laws_FnExactCompose.B31 : List Nat := [0, 1, 0, 7, 15, 31, 63, 63, 0, 383, 1023]
theorem laws_FnExactCompose.tab31 : rtab .any (opsOf Try.f6 31) = laws_FnExactCompose.T31 := by kernel_rfl
theorem laws_FnExactCompose.bits31 : waitsOk laws_FnExactCompose.T31.2 laws_FnExactCompose.B31 = true := by kernel_rfl
set_option maxHeartbeats 8000000 in
set_option maxRecDepth 100000 in
theorem laws_FnExactCompose.calls (k : Nat) (A0_0 : Option Addr) (c0_0 : Nat) (l0_0 : List Int) (A0_1 : Option Addr) (c0_1 : Nat) (l0_1 : List Int) (A1_0 : Option Addr) (c1_0 : Nat) (l1_0 : List Int) (A1_1 : Option Addr) (c1_1 : Nat) (l1_1 : List Int) (w : World) (hr0_0 : Kd.C (Kd.int .i64) w A0_0 l0_0.length l0_0) (hc0_0 : l0_0.length ≤ c0_0) (hr0_1 : Kd.C (Kd.int .i64) w A0_1 l0_1.length l0_1) (hc0_1 : l0_1.length ≤ c0_1) (hr1_0 : Kd.C (Kd.int .i64) w A1_0 l1_0.length l1_0) (hc1_0 : l1_0.length ≤ c1_0) (hr1_1 : Kd.C (Kd.int .i64) w A1_1 l1_1.length l1_1) (hc1_1 : l1_1.length ≤ c1_1) (h : laws_FnExactCompose.f k l0_0 l0_1 l1_0 l1_1 = some true) :
  Calls Try.prog 6 #[.agg #[.slice A0_0 l0_0.length c0_0,.slice A0_1 l0_1.length c0_1],.agg #[.slice A1_0 l1_0.length c1_0,.slice A1_1 l1_1.length c1_1]] w fun e w'=>e = .returned (.bool true)∧Below w.heap.size w w':=by
 have hu47:=Try.underlying47
 have hu49:=Try.underlying49
 have HR0_0:=Aside0.mk hr0_0
 have HC0_0:=Aside0.mk hc0_0
 clear hr0_0 hc0_0
 have HR0_1:=Aside0.mk hr0_1
 have HC0_1:=Aside0.mk hc0_1
 clear hr0_1 hc0_1
 have HR1_0:=Aside0.mk hr1_0
 have HC1_0:=Aside0.mk hc1_0
 clear hr1_0 hc1_0
 have HR1_1:=Aside0.mk hr1_1
 have HC1_1:=Aside0.mk hc1_1
 clear hr1_1 hc1_1
 have HB:=Aside0.mk (Below.refl w.heap.size w)
 have H:((laws_szSubstitution.f l0_0 l0_1 1048576).bind fun t220=>(if t220 < 0 then (some true) else ((laws_szSubstitution.f l1_0 l1_1 t220).bind fun t221=>(if t221 < 0 then (some true) else ((laws_toSubstitution.f k l0_0 l0_1).bind fun bt222=>((laws_toSubstitution.f k l1_0 l1_1).bind fun bt228=>((spec_Compose.f k bt222.1 bt222.2 bt228.1 bt228.2).bind fun bt234=>((laws_toSubstitution.f k l0_0 l0_1).bind fun bt242=>((laws_toSubstitution.f k l1_0 l1_1).bind fun bt249=>((impl_Compose.f k bt242.1 bt242.2 bt249.1 bt249.2).bind fun bt256=>((laws_eqSubstitution.f k bt256.1 bt256.2.1 bt234.1 bt234.2.1).bind fun t264=>(if t264 = true then (laws_FnExactCompose.j0 k bt234.2.2 bt256.2.2 (bt256.2.2 != bt234.2.2) l0_0 l0_1 l1_0 l1_1 bt234.1 bt234.2.1 bt242.1 bt242.2 bt249.1 bt249.2 bt256.1 bt256.2.1) else (laws_FnExactCompose.j0 k bt234.2.2 bt256.2.2 true l0_0 l0_1 l1_0 l1_1 bt234.1 bt234.2.1 bt242.1 bt242.2 bt249.1 bt249.2 bt256.1 bt256.2.1))))))))))))) = some true:=h
 clear h
 replace H:=Option.bind_eq_some_iff.mp H
 obtain ⟨t220,A30,H⟩:=H
 try dsimp only at H
 have A3:=Aside0.mk A30
 clear A30
 by_cases c4:t220 < 0
 ·rw [if_pos c4] at H
  have c4b0:decide (t220 < 0) = true:=decide_eq_true c4
  clear c4
  clear H
  go_enter Try.func6,Try.ntmps6
  go_wp2_with (first|((with_reducible refine gate_dst (N:=2) rfl ?_);refine box_event ?hg (N:=2) ?hd (cs:=#[.slice A0_0 l0_0.length c0_0,.slice A0_1 l0_1.length c0_1]) (t:=47) ?hr ?_;(case hd=>rfl);(case hg=>rfl);(case hr=>first|(go_simp;done)|(go_simp;rfl));intro gb218 hg w5 hbox hb;have BK218:=zm (hbox);have GW218:=zm ((by rw [hg];exact (below_size zl):w.heap.size≤gb218));have GE218:=GW218;replace HB:=zm (below_step zl hb);clear hb hbox hg)|((with_reducible refine gate_dst (N:=3) rfl ?_);refine box_event ?hg (N:=3) ?hd (cs:=#[.slice A1_0 l1_0.length c1_0,.slice A1_1 l1_1.length c1_1]) (t:=47) ?hr ?_;(case hd=>rfl);(case hg=>rfl);(case hr=>first|(go_simp;done)|(go_simp;rfl));intro gb219 hg w6 hbox hb;have BK219:=zm (hbox);have GW219:=zm ((by rw [hg];exact (below_size zl):w.heap.size≤gb219));have GE219:=GW219;replace HB:=zm (below_step zl hb);have NB218_219:=zm (zl1 hg (zb BK218.out));have NB219_218:=zm (zl2 hg (zb BK218.out));replace BK218:=zbk BK218 hb;clear hb hbox hg;have hnb7:=NB218_219.out;have hnc7:=NB219_218.out;have hcz8_0:w6.cell? ⟨gb218,0,none⟩ = some (.slice A0_0 l0_0.length c0_0):=zcl BK218.out 0;have hcz8_1:w6.cell? ⟨gb218,1,none⟩ = some (.slice A0_1 l0_1.length c0_1):=zcl BK218.out 1;have hfz8_0:=blk_frozen BK218.out 0;have hfz8_1:=blk_frozen BK218.out 1)|((with_reducible refine gate_callee (f:=23) rfl ?_);refine zg (some 19) Try.func23 #[.agg #[.slice A0_0 l0_0.length c0_0,.slice A0_1 l0_1.length c0_1],.int .i64 1048576] ?_;(with_reducible refine (laws_szSubstitution.calls _ _ l0_0 _ _ l0_1 1048576 t220 _ ?side1 ?side2 ?side3 ?side4 A3.out).mono ?_);(case side1=>exact zc HR0_0.out);(case side2=>exact HC0_0.out);(case side3=>exact zc HR0_1.out);(case side4=>exact HC0_1.out);rintro e w9 ⟨rfl,hb⟩;refine ⟨_,rfl,?_⟩;replace BK218:=zbk BK218 hb;replace BK219:=zbk BK219 hb;replace HB:=zm (below_step zl hb);(try clear hb)))
  go_ret
  exact ⟨by first|rfl|(simp [errW_none,errW_some] <;> rfl)|(simp [*,errW_none,errW_some] <;> rfl),zl⟩
 ·rw [if_neg c4] at H
  have c4b0:decide (t220 < 0) = false:=decide_eq_false c4
  clear c4
  replace H:=Option.bind_eq_some_iff.mp H
  obtain ⟨t221,A100,H⟩:=H
  try dsimp only at H
  have A10:=Aside0.mk A100
  clear A100
  by_cases c11:t221 < 0
  ·rw [if_pos c11] at H
   have c11b0:decide (t221 < 0) = true:=decide_eq_true c11
   clear c11
   clear H
   go_enter Try.func6,Try.ntmps6
   go_wp2_with (first|((with_reducible refine gate_dst (N:=2) rfl ?_);refine box_event ?hg (N:=2) ?hd (cs:=#[.slice A0_0 l0_0.length c0_0,.slice A0_1 l0_1.length c0_1]) (t:=47) ?hr ?_;(case hd=>rfl);(case hg=>rfl);(case hr=>first|(go_simp;done)|(go_simp;rfl));intro gb218 hg w12 hbox hb;have BK218:=zm (hbox);have GW218:=zm ((by rw [hg];exact (below_size zl):w.heap.size≤gb218));have GE218:=GW218;replace HB:=zm (below_step zl hb);clear hb hbox hg)|((with_reducible refine gate_dst (N:=3) rfl ?_);refine box_event ?hg (N:=3) ?hd (cs:=#[.slice A1_0 l1_0.length c1_0,.slice A1_1 l1_1.length c1_1]) (t:=47) ?hr ?_;(case hd=>rfl);(case hg=>rfl);(case hr=>first|(go_simp;done)|(go_simp;rfl));intro gb219 hg w13 hbox hb;have BK219:=zm (hbox);have GW219:=zm ((by rw [hg];exact (below_size zl):w.heap.size≤gb219));have GE219:=GW219;replace HB:=zm (below_step zl hb);have NB218_219:=zm (zl1 hg (zb BK218.out));have NB219_218:=zm (zl2 hg (zb BK218.out));replace BK218:=zbk BK218 hb;clear hb hbox hg;have hnb14:=NB218_219.out;have hnc14:=NB219_218.out;have hcz15_0:w13.cell? ⟨gb218,0,none⟩ = some (.slice A0_0 l0_0.length c0_0):=zcl BK218.out 0;have hcz15_1:w13.cell? ⟨gb218,1,none⟩ = some (.slice A0_1 l0_1.length c0_1):=zcl BK218.out 1;have hfz15_0:=blk_frozen BK218.out 0;have hfz15_1:=blk_frozen BK218.out 1)|((with_reducible refine gate_callee (f:=23) rfl ?_);refine zg (some 19) Try.func23 #[.agg #[.slice A0_0 l0_0.length c0_0,.slice A0_1 l0_1.length c0_1],.int .i64 1048576] ?_;(with_reducible refine (laws_szSubstitution.calls _ _ l0_0 _ _ l0_1 1048576 t220 _ ?side1 ?side2 ?side3 ?side4 A3.out).mono ?_);(case side1=>exact zc HR0_0.out);(case side2=>exact HC0_0.out);(case side3=>exact zc HR0_1.out);(case side4=>exact HC0_1.out);rintro e w16 ⟨rfl,hb⟩;refine ⟨_,rfl,?_⟩;replace BK218:=zbk BK218 hb;replace BK219:=zbk BK219 hb;replace HB:=zm (below_step zl hb);(try clear hb);have hcz17_0:w16.cell? ⟨gb219,0,none⟩ = some (.slice A1_0 l1_0.length c1_0):=zcl BK219.out 0;have hcz17_1:w16.cell? ⟨gb219,1,none⟩ = some (.slice A1_1 l1_1.length c1_1):=zcl BK219.out 1;have hfz17_0:=blk_frozen BK219.out 0;have hfz17_1:=blk_frozen BK219.out 1)|((with_reducible refine gate_callee (f:=23) rfl ?_);refine zg (some 24) Try.func23 #[.agg #[.slice A1_0 l1_0.length c1_0,.slice A1_1 l1_1.length c1_1],.int .i64 t220] ?_;(with_reducible refine (laws_szSubstitution.calls _ _ l1_0 _ _ l1_1 t220 t221 _ ?side1 ?side2 ?side3 ?side4 A10.out).mono ?_);(case side1=>exact zc HR1_0.out);(case side2=>exact HC1_0.out);(case side3=>exact zc HR1_1.out);(case side4=>exact HC1_1.out);rintro e w18 ⟨rfl,hb⟩;refine ⟨_,rfl,?_⟩;replace BK218:=zbk BK218 hb;replace BK219:=zbk BK219 hb;replace HB:=zm (below_step zl hb);(try clear hb)))
   go_ret
   exact ⟨by first|rfl|(simp [errW_none,errW_some] <;> rfl)|(simp [*,errW_none,errW_some] <;> rfl),zl⟩
  ·rw [if_neg c11] at H
   have c11b0:decide (t221 < 0) = false:=decide_eq_false c11
   clear c11
   replace H:=Option.bind_eq_some_iff.mp H
   obtain ⟨⟨t222,t225⟩,A190,H⟩:=H
   try dsimp only at H
   have A19:=Aside0.mk A190
   clear A190
   replace H:=Option.bind_eq_some_iff.mp H
   obtain ⟨⟨t228,t231⟩,A200,H⟩:=H
   try dsimp only at H
   have A20:=Aside0.mk A200
   clear A200
   replace H:=Option.bind_eq_some_iff.mp H
   obtain ⟨⟨t234,t237,t240⟩,A210,H⟩:=H
   try dsimp only at H
   have A21:=Aside0.mk A210
   clear A210
   replace H:=Option.bind_eq_some_iff.mp H
   obtain ⟨⟨t242,t245⟩,A220,H⟩:=H
   try dsimp only at H
   have A22:=Aside0.mk A220
   clear A220
   replace H:=Option.bind_eq_some_iff.mp H
   obtain ⟨⟨t249,t252⟩,A230,H⟩:=H
   try dsimp only at H
   have A23:=Aside0.mk A230
   clear A230
   replace H:=Option.bind_eq_some_iff.mp H
   obtain ⟨⟨t256,t259,t262⟩,A240,H⟩:=H
   replace H:((laws_eqSubstitution.f k t256 t259 t234 t237).bind fun t264=>(if t264 = true then (laws_FnExactCompose.j0 k t240 t262 (t262 != t240) l0_0 l0_1 l1_0 l1_1 t234 t237 t242 t245 t249 t252 t256 t259) else (laws_FnExactCompose.j0 k t240 t262 true l0_0 l0_1 l1_0 l1_1 t234 t237 t242 t245 t249 t252 t256 t259))) = some true:=H
   have A24:=Aside0.mk A240
   clear A240
   have HC25:=Aside0.mk H
   clear H
   go_enter Try.func6,Try.ntmps6
   try go_wp2_with (first|((with_reducible refine gate_dst (N:=2) rfl ?_);refine box_event ?hg (N:=2) ?hd (cs:=#[.slice A0_0 l0_0.length c0_0,.slice A0_1 l0_1.length c0_1]) (t:=47) ?hr ?_;(case hd=>rfl);(case hg=>rfl);(case hr=>first|(go_simp;done)|(go_simp;rfl));intro gb218 hg w26 hbox hb;have BK218:=zm (hbox);have GW218:=zm ((by rw [hg];exact (below_size zl):w.heap.size≤gb218));have GE218:=GW218;replace HB:=zm (below_step zl hb);clear hb hbox hg)|((with_reducible refine gate_dst (N:=3) rfl ?_);refine box_event ?hg (N:=3) ?hd (cs:=#[.slice A1_0 l1_0.length c1_0,.slice A1_1 l1_1.length c1_1]) (t:=47) ?hr ?_;(case hd=>rfl);(case hg=>rfl);(case hr=>first|(go_simp;done)|(go_simp;rfl));intro gb219 hg w27 hbox hb;have BK219:=zm (hbox);have GW219:=zm ((by rw [hg];exact (below_size zl):w.heap.size≤gb219));have GE219:=GW219;replace HB:=zm (below_step zl hb);have NB218_219:=zm (zl1 hg (zb BK218.out));have NB219_218:=zm (zl2 hg (zb BK218.out));replace BK218:=zbk BK218 hb;clear hb hbox hg;have hnb28:=NB218_219.out;have hnc28:=NB219_218.out;have hcz29_0:w27.cell? ⟨gb218,0,none⟩ = some (.slice A0_0 l0_0.length c0_0):=zcl BK218.out 0;have hcz29_1:w27.cell? ⟨gb218,1,none⟩ = some (.slice A0_1 l0_1.length c0_1):=zcl BK218.out 1;have hfz29_0:=blk_frozen BK218.out 0;have hfz29_1:=blk_frozen BK218.out 1)|((with_reducible refine gate_callee (f:=23) rfl ?_);refine zg (some 19) Try.func23 #[.agg #[.slice A0_0 l0_0.length c0_0,.slice A0_1 l0_1.length c0_1],.int .i64 1048576] ?_;(with_reducible refine (laws_szSubstitution.calls _ _ l0_0 _ _ l0_1 1048576 t220 _ ?side1 ?side2 ?side3 ?side4 A3.out).mono ?_);(case side1=>exact zc HR0_0.out);(case side2=>exact HC0_0.out);(case side3=>exact zc HR0_1.out);(case side4=>exact HC0_1.out);rintro e w30 ⟨rfl,hb⟩;refine ⟨_,rfl,?_⟩;replace BK218:=zbk BK218 hb;replace BK219:=zbk BK219 hb;replace HB:=zm (below_step zl hb);(try clear hb);have hcz31_0:w30.cell? ⟨gb219,0,none⟩ = some (.slice A1_0 l1_0.length c1_0):=zcl BK219.out 0;have hcz31_1:w30.cell? ⟨gb219,1,none⟩ = some (.slice A1_1 l1_1.length c1_1):=zcl BK219.out 1;have hfz31_0:=blk_frozen BK219.out 0;have hfz31_1:=blk_frozen BK219.out 1)|((with_reducible refine gate_callee (f:=23) rfl ?_);refine zg (some 24) Try.func23 #[.agg #[.slice A1_0 l1_0.length c1_0,.slice A1_1 l1_1.length c1_1],.int .i64 t220] ?_;(with_reducible refine (laws_szSubstitution.calls _ _ l1_0 _ _ l1_1 t220 t221 _ ?side1 ?side2 ?side3 ?side4 A10.out).mono ?_);(case side1=>exact zc HR1_0.out);(case side2=>exact HC1_0.out);(case side3=>exact zc HR1_1.out);(case side4=>exact HC1_1.out);rintro e w32 ⟨rfl,hb⟩;refine ⟨_,rfl,?_⟩;replace BK218:=zbk BK218 hb;replace BK219:=zbk BK219 hb;replace HB:=zm (below_step zl hb);(try clear hb)))
   replace BK218:=zm (blk_drew BK218.out)
   replace BK219:=zm (blk_drew BK219.out)
   replace HB:=zm (below_drew1 HB.out)
   refine start_ (n:=11) (S:=fun w'=>w'.cell? ⟨gb218,0,none⟩ = some (.slice A0_0 l0_0.length c0_0)∧w'.cell? ⟨gb218,1,none⟩ = some (.slice A0_1 l0_1.length c0_1)∧w'.cell? ⟨gb219,0,none⟩ = some (.slice A1_0 l1_0.length c1_0)∧w'.cell? ⟨gb219,1,none⟩ = some (.slice A1_1 l1_1.length c1_1)) (ds:=[]) #[false,false,false,false,false,false,false,false,false,false,false] (by kernel_rfl) rfl rfl ⟨zcl BK218.out 0,zcl BK218.out 1,zcl BK219.out 0,zcl BK219.out 1⟩ (fun hHeld=>?_);refine with_tabW laws_FnExactCompose.tab8 laws_FnExactCompose.bits8 (fun HT_ HW_=>?_)
   generalize w32.drew = w33 at BK218 BK219 HB hHeld ⊢
   refine take_ (i:=0) (N:=some 28) (v:=?_) (a':=?_) (zA 11 1) rfl rfl (take_ofW HT_.out HW_.out (by kernel_rfl)) (fun _ _ _ h=>h) (Or.inl ⟨by rfl,?_⟩) hHeld ?_ ?_
   rotate_left
   ·rintro w' ⟨s0,s1,s2,s3⟩
    go_simp
    with_reducible rfl
   rotate_left
   ·simp only [Act.put,List.setIfInBounds_toArray,List.set_cons_zero,List.set_cons_succ,i64_w,i32_w]
    rfl
   refine take_ (i:=2) (N:=some 30) (v:=?_) (a':=?_) (zA 11 5) rfl rfl (take_ofW HT_.out HW_.out (by kernel_rfl)) (fun _ _ _ h=>h) (Or.inl ⟨by rfl,?_⟩) hHeld ?_ ?_
   rotate_left
   ·rintro w' ⟨s0,s1,s2,s3⟩
    go_simp
    with_reducible rfl
   rotate_left
   ·simp only [Act.put,List.setIfInBounds_toArray,List.set_cons_zero,List.set_cons_succ,i64_w,i32_w]
    rfl
   refine join_ (σ:=Value × Value × Value × Value × Value × Value × Nat) 2 (zA 11 511) (fun s_=>[(29,.agg #[s_.1,s_.2.1]),(31,.agg #[s_.2.2.1,s_.2.2.2.1]),(32,.tuple #[.agg #[s_.2.2.2.2.1,s_.2.2.2.2.2.1],.bool t240]),(6,.pointer (some ⟨s_.2.2.2.2.2.2,0,none⟩)),(27,.tuple #[.agg #[s_.2.2.2.2.1,s_.2.2.2.2.2.1],.bool t240]),(33,.agg #[s_.2.2.2.2.1,s_.2.2.2.2.2.1]),(34,.bool t240)]) (fun s_ w'=>(w'.cell? ⟨gb218,0,none⟩ = some (.slice A0_0 l0_0.length c0_0)∧w'.cell? ⟨gb218,1,none⟩ = some (.slice A0_1 l0_1.length c0_1)∧w'.cell? ⟨gb219,0,none⟩ = some (.slice A1_0 l1_0.length c1_0)∧w'.cell? ⟨gb219,1,none⟩ = some (.slice A1_1 l1_1.length c1_1))∧(Kd.R (Kd.int .i64) 3 w' w.heap.size (fun k_=>zx (s_.2.1) k_∧zx (s_.2.2.1) k_∧zx (s_.2.2.2.1) k_∧zx (s_.2.2.2.2.1) k_∧zx (s_.2.2.2.2.2.1) k_) s_.1 t222)∧(Kd.R (Kd.int .i64) 3 w' w.heap.size (fun k_=>zx (s_.1) k_∧zx (s_.2.2.1) k_∧zx (s_.2.2.2.1) k_∧zx (s_.2.2.2.2.1) k_∧zx (s_.2.2.2.2.2.1) k_) s_.2.1 t225)∧(Kd.R (Kd.int .i64) 3 w' w.heap.size (fun k_=>zx (s_.1) k_∧zx (s_.2.1) k_∧zx (s_.2.2.2.1) k_∧zx (s_.2.2.2.2.1) k_∧zx (s_.2.2.2.2.2.1) k_) s_.2.2.1 t228)∧(Kd.R (Kd.int .i64) 3 w' w.heap.size (fun k_=>zx (s_.1) k_∧zx (s_.2.1) k_∧zx (s_.2.2.1) k_∧zx (s_.2.2.2.2.1) k_∧zx (s_.2.2.2.2.2.1) k_) s_.2.2.2.1 t231)∧(Kd.R (Kd.int .i64) 3 w' w.heap.size (fun k_=>zx (s_.1) k_∧zx (s_.2.1) k_∧zx (s_.2.2.1) k_∧zx (s_.2.2.2.1) k_∧zx (s_.2.2.2.2.2.1) k_) s_.2.2.2.2.1 t234)∧(Kd.R (Kd.int .i64) 3 w' w.heap.size (fun k_=>zx (s_.1) k_∧zx (s_.2.1) k_∧zx (s_.2.2.1) k_∧zx (s_.2.2.2.1) k_∧zx (s_.2.2.2.2.1) k_) s_.2.2.2.2.2.1 t237)∧(w'.heap[gb218]? = some (.cells #[.slice A0_0 l0_0.length c0_0,.slice A0_1 l0_1.length c0_1] 47 (0,0)))∧(w'.heap[gb219]? = some (.cells #[.slice A1_0 l1_0.length c1_0,.slice A1_1 l1_1.length c1_1] 47 (0,0)))∧(w'.heap[s_.2.2.2.2.2.2]? = some (.cells #[.slice none 0 0,.slice none 0 0] 49 (0,0)))∧(w.heap.size≤s_.2.2.2.2.2.2)∧(w.heap.size≤s_.2.2.2.2.2.2)∧(gb218≠s_.2.2.2.2.2.2)∧(s_.2.2.2.2.2.2≠gb218)∧(gb219≠s_.2.2.2.2.2.2)∧(s_.2.2.2.2.2.2≠gb219)∧(Below w.heap.size w w')) ?_ ?_
   rotate_left
   ·intro hCont
    refine two_ (i:=1) (j:=8) (Ni:=some 29) (Nj:=some 6) (zA 11 7) (zA 11 261) rfl rfl rfl rfl (two_of HT_.out (by kernel_rfl)) (by decide) (by decide) (fun K hK=>?_) (fun K hK=>?_)
    ·skip
     refine goes_ Try.func25 (by kernel_rfl) rfl #[.agg #[.slice A0_0 l0_0.length c0_0,.slice A0_1 l0_1.length c0_1]] (by rfl) rfl rfl (by (try simp only [List.map_toArray,List.map_cons,List.map_nil]);first|done|rfl|(simp only [List.length_drop,List.length_take];rfl)) ?_
     with_reducible refine (laws_toSubstitution.calls k _ _ l0_0 _ _ l0_1 t222 t225 _ ?side1 ?side2 ?side3 ?side4 A19.out).mono ?_
     (case side1=>exact zc HR0_0.out)
     (case side2=>exact HC0_0.out)
     (case side3=>exact zc HR0_1.out)
     (case side4=>exact HC0_1.out)
     rintro e w34 ⟨v223,v226,rfl,ho0,ho1,hb⟩
     refine ⟨_,rfl,?_⟩
     have HO224:=zm (Kd.R_lower ho0 (below_size zl))
     have HO227:=zm (Kd.R_lower ho1 (below_size zl))
     replace BK218:=zbk BK218 hb
     replace BK219:=zbk BK219 hb
     replace HB:=zm (below_step zl hb)
     (try clear hb ho0 ho1)
     refine hK.out _ _ ⟨zcl BK218.out 0,zcl BK218.out 1,zcl BK219.out 0,zcl BK219.out 1⟩ (fun hHeld=>?_)
     clear hK K
     refine zO (some 29) ?_
     refine two_ (i:=3) (j:=8) (Ni:=some 31) (Nj:=some 6) (zA 11 15) (zA 11 263) rfl rfl rfl rfl (two_of HT_.out (by kernel_rfl)) (by decide) (by decide) (fun K hK=>?_) (fun K hK=>?_)
     ·skip
      refine goes_ Try.func25 (by kernel_rfl) rfl #[.agg #[.slice A1_0 l1_0.length c1_0,.slice A1_1 l1_1.length c1_1]] (by rfl) rfl rfl (by (try simp only [List.map_toArray,List.map_cons,List.map_nil]);first|done|rfl|(simp only [List.length_drop,List.length_take];rfl)) ?_
      with_reducible refine (laws_toSubstitution.calls k _ _ l1_0 _ _ l1_1 t228 t231 _ ?side1 ?side2 ?side3 ?side4 A20.out).mono ?_
      (case side1=>exact zc HR1_0.out)
      (case side2=>exact HC1_0.out)
      (case side3=>exact zc HR1_1.out)
      (case side4=>exact HC1_1.out)
      rintro e w35 ⟨v229,v232,rfl,ho0,ho1,hb⟩
      refine ⟨_,rfl,?_⟩
      have HO230:=zm (Kd.R_lower (zn (zn ho0 (zr HO224.out)) (zr HO227.out)) (below_size zl))
      have HO233:=zm (Kd.R_lower (zn (zn ho1 (zr HO224.out)) (zr HO227.out)) (below_size zl))
      replace HO224:=(zO2 HO224 hb ho0 ho1)
      replace HO227:=(zO2 HO227 hb ho0 ho1)
      replace BK218:=zbk BK218 hb
      replace BK219:=zbk BK219 hb
      replace HB:=zm (below_step zl hb)
      (try clear hb ho0 ho1)
      obtain ⟨Ao36,co36,eo36⟩:=Kd.R_slice HO224.out
      (first|subst eo36|(injection eo36 with f1_ f2_ f3_;obtain rfl:=f1_.symm;obtain rfl:=f3_.symm))
      obtain ⟨Ao37,co37,eo37⟩:=Kd.R_slice HO227.out
      (first|subst eo37|(injection eo37 with f1_ f2_ f3_;obtain rfl:=f1_.symm;obtain rfl:=f3_.symm))
      obtain ⟨Ao38,co38,eo38⟩:=Kd.R_slice HO230.out
      (first|subst eo38|(injection eo38 with f1_ f2_ f3_;obtain rfl:=f1_.symm;obtain rfl:=f3_.symm))
      obtain ⟨Ao39,co39,eo39⟩:=Kd.R_slice HO233.out
      (first|subst eo39|(injection eo39 with f1_ f2_ f3_;obtain rfl:=f1_.symm;obtain rfl:=f3_.symm))
      refine hK.out _ _ ⟨zcl BK218.out 0,zcl BK218.out 1,zcl BK219.out 0,zcl BK219.out 1⟩ (fun hHeld=>?_)
      clear hK K
      refine zO (some 31) ?_
      refine two_ (i:=4) (j:=8) (Ni:=some 32) (Nj:=some 6) (zA 11 31) (zA 11 271) rfl rfl rfl rfl (two_of HT_.out (by kernel_rfl)) (by decide) (by decide) (fun K hK=>?_) (fun K hK=>?_)
      ·skip
       refine goes_ Try.func24 (by kernel_rfl) rfl #[.agg #[.slice Ao36 t222.length co36,.slice Ao37 t225.length co37],.agg #[.slice Ao38 t228.length co38,.slice Ao39 t231.length co39]] (by rfl) rfl rfl (by (try simp only [List.map_toArray,List.map_cons,List.map_nil]);first|done|rfl|(simp only [List.length_drop,List.length_take];rfl)) ?_
       with_reducible refine (spec_Compose.calls k _ _ t222 _ _ t225 _ _ t228 _ _ t231 t234 t237 t240 _ ?side1 ?side2 ?side3 ?side4 ?side5 ?side6 ?side7 ?side8 A21.out).mono ?_
       (case side1=>exact zk HO224.out)
       (case side2=>exact (Kd.R_reads' HO224.out).2.1)
       (case side3=>exact zk HO227.out)
       (case side4=>exact (Kd.R_reads' HO227.out).2.1)
       (case side5=>exact zk HO230.out)
       (case side6=>exact (Kd.R_reads' HO230.out).2.1)
       (case side7=>exact zk HO233.out)
       (case side8=>exact (Kd.R_reads' HO233.out).2.1)
       rintro e w40 ⟨v235,v238,rfl,ho0,ho1,hb⟩
       refine ⟨_,rfl,?_⟩
       have HO236:=zm (Kd.R_lower (zn (zn (zn (zn ho0 (zr HO224.out)) (zr HO227.out)) (zr HO230.out)) (zr HO233.out)) (below_size zl))
       have HO239:=zm (Kd.R_lower (zn (zn (zn (zn ho1 (zr HO224.out)) (zr HO227.out)) (zr HO230.out)) (zr HO233.out)) (below_size zl))
       replace HO224:=(zO2 HO224 hb ho0 ho1)
       replace HO227:=(zO2 HO227 hb ho0 ho1)
       replace HO230:=(zO2 HO230 hb ho0 ho1)
       replace HO233:=(zO2 HO233 hb ho0 ho1)
       replace BK218:=zbk BK218 hb
       replace BK219:=zbk BK219 hb
       replace HB:=zm (below_step zl hb)
       (try clear hb ho0 ho1)
       refine hK.out _ _ ⟨zcl BK218.out 0,zcl BK218.out 1,zcl BK219.out 0,zcl BK219.out 1⟩ (fun hHeld=>?_)
       clear hK K
       refine zO (some 32) ?_
       refine zP 5 (some 27) (zA 11 63) (any_of HT_.out (by kernel_rfl)) ?_
       refine zP 6 (some 33) (zA 11 127) (any_of HT_.out (by kernel_rfl)) ?_
       refine zP 7 (some 34) (zA 11 255) (any_of HT_.out (by kernel_rfl)) ?_
       refine one_ (i:=8) (N:=some 6) (zA 11 511) rfl rfl (one_of HT_.out (by kernel_rfl)) (by decide) (fun K hK=>?_)
       refine box_step ?hg (N:=6) ?hd (cs:=#[.slice none 0 0,.slice none 0 0]) (t:=49) ?hr ?_;(case hd=>rfl);(case hg=>rfl);(case hr=>first|(go_simp;done)|(go_simp;rfl))
       intro gb241 hg w41 hbox hb
       replace HO224:=zRb HO224 hb
       replace HO227:=zRb HO227 hb
       replace HO230:=zRb HO230 hb
       replace HO233:=zRb HO233 hb
       replace HO236:=zRb HO236 hb
       replace HO239:=zRb HO239 hb
       have BK241:=zm (hbox)
       have GW241:=zm ((by rw [hg];exact (below_size zl):w.heap.size≤gb241))
       have GE241:=GW241
       replace HB:=zm (below_step zl hb)
       have NB218_241:=zm (zl1 hg (zb BK218.out))
       have NB241_218:=zm (zl2 hg (zb BK218.out))
       replace BK218:=zbk BK218 hb
       have NB219_241:=zm (zl1 hg (zb BK219.out))
       have NB241_219:=zm (zl2 hg (zb BK219.out))
       replace BK219:=zbk BK219 hb
       clear hb hbox hg
       refine hK.out _ _ ⟨zcl BK218.out 0,zcl BK218.out 1,zcl BK219.out 0,zcl BK219.out 1⟩ (fun hHeld=>?_)
       clear hK K
       refine zO (some 6) ?_
       exact norm_ (by simp only [putAll,Act.put,List.setIfInBounds_toArray,List.set_cons_zero,List.set_cons_succ]) (hCont (.slice Ao36 t222.length co36,.slice Ao37 t225.length co37,.slice Ao38 t228.length co38,.slice Ao39 t231.length co39,v235,v238,gb241) _ ⟨hHeld,(zr (Kd.R_mono HO224.out (fun _ hk=>⟨hk.1.1.1.1,hk.1.1.1.2,hk.1.1.2,hk.1.2,hk.2⟩))),(zr (Kd.R_mono HO227.out (fun _ hk=>⟨hk.1.1.1.1,hk.1.1.1.2,hk.1.1.2,hk.1.2,hk.2⟩))),(zr (Kd.R_mono HO230.out (fun _ hk=>⟨hk.1.1.1.2,hk.1.1.2,hk.1.1.1.1,hk.1.2,hk.2⟩))),(zr (Kd.R_mono HO233.out (fun _ hk=>⟨hk.1.1.1.2,hk.1.1.2,hk.1.1.1.1,hk.1.2,hk.2⟩))),(zr (Kd.R_mono HO236.out (fun _ hk=>⟨hk.1.1.1.2,hk.1.1.2,hk.1.2,hk.2,hk.1.1.1.1⟩))),(zr (Kd.R_mono HO239.out (fun _ hk=>⟨hk.1.1.1.2,hk.1.1.2,hk.1.2,hk.2,hk.1.1.1.1⟩))),(zb BK218.out),(zb BK219.out),(zb BK241.out),GW241.out,GE241.out,NB218_241.out,NB241_218.out,NB219_241.out,NB241_219.out,zl⟩)
      ·skip
       refine box_step ?hg (N:=6) ?hd (cs:=#[.slice none 0 0,.slice none 0 0]) (t:=49) ?hr ?_;(case hd=>rfl);(case hg=>rfl);(case hr=>first|(go_simp;done)|(go_simp;rfl))
       intro gb241 hg w36 hbox hb
       replace HO224:=zRb HO224 hb
       replace HO227:=zRb HO227 hb
       replace HO230:=zRb HO230 hb
       replace HO233:=zRb HO233 hb
       have BK241:=zm (hbox)
       have GW241:=zm ((by rw [hg];exact (below_size zl):w.heap.size≤gb241))
       have GE241:=GW241
       replace HB:=zm (below_step zl hb)
       have NB218_241:=zm (zl1 hg (zb BK218.out))
       have NB241_218:=zm (zl2 hg (zb BK218.out))
       replace BK218:=zbk BK218 hb
       have NB219_241:=zm (zl1 hg (zb BK219.out))
       have NB241_219:=zm (zl2 hg (zb BK219.out))
       replace BK219:=zbk BK219 hb
       clear hb hbox hg
       obtain ⟨Ao37,co37,eo37⟩:=Kd.R_slice HO224.out
       (first|subst eo37|(injection eo37 with f1_ f2_ f3_;obtain rfl:=f1_.symm;obtain rfl:=f3_.symm))
       obtain ⟨Ao38,co38,eo38⟩:=Kd.R_slice HO227.out
       (first|subst eo38|(injection eo38 with f1_ f2_ f3_;obtain rfl:=f1_.symm;obtain rfl:=f3_.symm))
       obtain ⟨Ao39,co39,eo39⟩:=Kd.R_slice HO230.out
       (first|subst eo39|(injection eo39 with f1_ f2_ f3_;obtain rfl:=f1_.symm;obtain rfl:=f3_.symm))
       obtain ⟨Ao40,co40,eo40⟩:=Kd.R_slice HO233.out
       (first|subst eo40|(injection eo40 with f1_ f2_ f3_;obtain rfl:=f1_.symm;obtain rfl:=f3_.symm))
       refine hK.out _ _ ⟨zcl BK218.out 0,zcl BK218.out 1,zcl BK219.out 0,zcl BK219.out 1⟩ (fun hHeld=>?_)
       clear hK K
       refine zO (some 6) ?_
       refine one_ (i:=4) (N:=some 32) (zA 11 287) rfl rfl (one_of HT_.out (by kernel_rfl)) (by decide) (fun K hK=>?_)
       refine goes_ Try.func24 (by kernel_rfl) rfl #[.agg #[.slice Ao37 t222.length co37,.slice Ao38 t225.length co38],.agg #[.slice Ao39 t228.length co39,.slice Ao40 t231.length co40]] (by rfl) rfl rfl (by (try simp only [List.map_toArray,List.map_cons,List.map_nil]);first|done|rfl|(simp only [List.length_drop,List.length_take];rfl)) ?_
       with_reducible refine (spec_Compose.calls k _ _ t222 _ _ t225 _ _ t228 _ _ t231 t234 t237 t240 _ ?side1 ?side2 ?side3 ?side4 ?side5 ?side6 ?side7 ?side8 A21.out).mono ?_
       (case side1=>exact zk HO224.out)
       (case side2=>exact (Kd.R_reads' HO224.out).2.1)
       (case side3=>exact zk HO227.out)
       (case side4=>exact (Kd.R_reads' HO227.out).2.1)
       (case side5=>exact zk HO230.out)
       (case side6=>exact (Kd.R_reads' HO230.out).2.1)
       (case side7=>exact zk HO233.out)
       (case side8=>exact (Kd.R_reads' HO233.out).2.1)
       rintro e w41 ⟨v235,v238,rfl,ho0,ho1,hb⟩
       refine ⟨_,rfl,?_⟩
       have HO236:=zm (Kd.R_lower (zn (zn (zn (zn ho0 (zr HO224.out)) (zr HO227.out)) (zr HO230.out)) (zr HO233.out)) (below_size zl))
       have HO239:=zm (Kd.R_lower (zn (zn (zn (zn ho1 (zr HO224.out)) (zr HO227.out)) (zr HO230.out)) (zr HO233.out)) (below_size zl))
       replace HO224:=(zO2 HO224 hb ho0 ho1)
       replace HO227:=(zO2 HO227 hb ho0 ho1)
       replace HO230:=(zO2 HO230 hb ho0 ho1)
       replace HO233:=(zO2 HO233 hb ho0 ho1)
       replace BK218:=zbk BK218 hb
       replace BK219:=zbk BK219 hb
       replace BK241:=zbk BK241 hb
       replace HB:=zm (below_step zl hb)
       (try clear hb ho0 ho1)
       refine hK.out _ _ ⟨zcl BK218.out 0,zcl BK218.out 1,zcl BK219.out 0,zcl BK219.out 1⟩ (fun hHeld=>?_)
       clear hK K
       refine zO (some 32) ?_
       refine zP 5 (some 27) (zA 11 319) (any_of HT_.out (by kernel_rfl)) ?_
       refine zP 6 (some 33) (zA 11 383) (any_of HT_.out (by kernel_rfl)) ?_
       refine zP 7 (some 34) (zA 11 511) (any_of HT_.out (by kernel_rfl)) ?_
       exact norm_ (by simp only [putAll,Act.put,List.setIfInBounds_toArray,List.set_cons_zero,List.set_cons_succ]) (hCont (.slice Ao37 t222.length co37,.slice Ao38 t225.length co38,.slice Ao39 t228.length co39,.slice Ao40 t231.length co40,v235,v238,gb241) _ ⟨hHeld,(zr (Kd.R_mono HO224.out (fun _ hk=>⟨hk.1.1.1.1,hk.1.1.1.2,hk.1.1.2,hk.1.2,hk.2⟩))),(zr (Kd.R_mono HO227.out (fun _ hk=>⟨hk.1.1.1.1,hk.1.1.1.2,hk.1.1.2,hk.1.2,hk.2⟩))),(zr (Kd.R_mono HO230.out (fun _ hk=>⟨hk.1.1.1.2,hk.1.1.2,hk.1.1.1.1,hk.1.2,hk.2⟩))),(zr (Kd.R_mono HO233.out (fun _ hk=>⟨hk.1.1.1.2,hk.1.1.2,hk.1.1.1.1,hk.1.2,hk.2⟩))),(zr (Kd.R_mono HO236.out (fun _ hk=>⟨hk.1.1.1.2,hk.1.1.2,hk.1.2,hk.2,hk.1.1.1.1⟩))),(zr (Kd.R_mono HO239.out (fun _ hk=>⟨hk.1.1.1.2,hk.1.1.2,hk.1.2,hk.2,hk.1.1.1.1⟩))),(zb BK218.out),(zb BK219.out),(zb BK241.out),GW241.out,GE241.out,NB218_241.out,NB241_218.out,NB219_241.out,NB241_219.out,zl⟩)
     ·skip
      refine box_step ?hg (N:=6) ?hd (cs:=#[.slice none 0 0,.slice none 0 0]) (t:=49) ?hr ?_;(case hd=>rfl);(case hg=>rfl);(case hr=>first|(go_simp;done)|(go_simp;rfl))
      intro gb241 hg w35 hbox hb
      replace HO224:=zRb HO224 hb
      replace HO227:=zRb HO227 hb
      have BK241:=zm (hbox)
      have GW241:=zm ((by rw [hg];exact (below_size zl):w.heap.size≤gb241))
      have GE241:=GW241
      replace HB:=zm (below_step zl hb)
      have NB218_241:=zm (zl1 hg (zb BK218.out))
      have NB241_218:=zm (zl2 hg (zb BK218.out))
      replace BK218:=zbk BK218 hb
      have NB219_241:=zm (zl1 hg (zb BK219.out))
      have NB241_219:=zm (zl2 hg (zb BK219.out))
      replace BK219:=zbk BK219 hb
      clear hb hbox hg
      refine hK.out _ _ ⟨zcl BK218.out 0,zcl BK218.out 1,zcl BK219.out 0,zcl BK219.out 1⟩ (fun hHeld=>?_)
      clear hK K
      refine zO (some 6) ?_
      refine one_ (i:=3) (N:=some 31) (zA 11 271) rfl rfl (one_of HT_.out (by kernel_rfl)) (by decide) (fun K hK=>?_)
      refine goes_ Try.func25 (by kernel_rfl) rfl #[.agg #[.slice A1_0 l1_0.length c1_0,.slice A1_1 l1_1.length c1_1]] (by rfl) rfl rfl (by (try simp only [List.map_toArray,List.map_cons,List.map_nil]);first|done|rfl|(simp only [List.length_drop,List.length_take];rfl)) ?_
      with_reducible refine (laws_toSubstitution.calls k _ _ l1_0 _ _ l1_1 t228 t231 _ ?side1 ?side2 ?side3 ?side4 A20.out).mono ?_
      (case side1=>exact zc HR1_0.out)
      (case side2=>exact HC1_0.out)
      (case side3=>exact zc HR1_1.out)
      (case side4=>exact HC1_1.out)
      rintro e w36 ⟨v229,v232,rfl,ho0,ho1,hb⟩
      refine ⟨_,rfl,?_⟩
      have HO230:=zm (Kd.R_lower (zn (zn ho0 (zr HO224.out)) (zr HO227.out)) (below_size zl))
      have HO233:=zm (Kd.R_lower (zn (zn ho1 (zr HO224.out)) (zr HO227.out)) (below_size zl))
      replace HO224:=(zO2 HO224 hb ho0 ho1)
      replace HO227:=(zO2 HO227 hb ho0 ho1)
      replace BK218:=zbk BK218 hb
      replace BK219:=zbk BK219 hb
      replace BK241:=zbk BK241 hb
      replace HB:=zm (below_step zl hb)
      (try clear hb ho0 ho1)
      obtain ⟨Ao37,co37,eo37⟩:=Kd.R_slice HO224.out
      (first|subst eo37|(injection eo37 with f1_ f2_ f3_;obtain rfl:=f1_.symm;obtain rfl:=f3_.symm))
      obtain ⟨Ao38,co38,eo38⟩:=Kd.R_slice HO227.out
      (first|subst eo38|(injection eo38 with f1_ f2_ f3_;obtain rfl:=f1_.symm;obtain rfl:=f3_.symm))
      obtain ⟨Ao39,co39,eo39⟩:=Kd.R_slice HO230.out
      (first|subst eo39|(injection eo39 with f1_ f2_ f3_;obtain rfl:=f1_.symm;obtain rfl:=f3_.symm))
      obtain ⟨Ao40,co40,eo40⟩:=Kd.R_slice HO233.out
      (first|subst eo40|(injection eo40 with f1_ f2_ f3_;obtain rfl:=f1_.symm;obtain rfl:=f3_.symm))
      refine hK.out _ _ ⟨zcl BK218.out 0,zcl BK218.out 1,zcl BK219.out 0,zcl BK219.out 1⟩ (fun hHeld=>?_)
      clear hK K
      refine zO (some 31) ?_
      refine one_ (i:=4) (N:=some 32) (zA 11 287) rfl rfl (one_of HT_.out (by kernel_rfl)) (by decide) (fun K hK=>?_)
      refine goes_ Try.func24 (by kernel_rfl) rfl #[.agg #[.slice Ao37 t222.length co37,.slice Ao38 t225.length co38],.agg #[.slice Ao39 t228.length co39,.slice Ao40 t231.length co40]] (by rfl) rfl rfl (by (try simp only [List.map_toArray,List.map_cons,List.map_nil]);first|done|rfl|(simp only [List.length_drop,List.length_take];rfl)) ?_
      with_reducible refine (spec_Compose.calls k _ _ t222 _ _ t225 _ _ t228 _ _ t231 t234 t237 t240 _ ?side1 ?side2 ?side3 ?side4 ?side5 ?side6 ?side7 ?side8 A21.out).mono ?_
      (case side1=>exact zk HO224.out)
      (case side2=>exact (Kd.R_reads' HO224.out).2.1)
      (case side3=>exact zk HO227.out)
      (case side4=>exact (Kd.R_reads' HO227.out).2.1)
      (case side5=>exact zk HO230.out)
      (case side6=>exact (Kd.R_reads' HO230.out).2.1)
      (case side7=>exact zk HO233.out)
      (case side8=>exact (Kd.R_reads' HO233.out).2.1)
      rintro e w41 ⟨v235,v238,rfl,ho0,ho1,hb⟩
      refine ⟨_,rfl,?_⟩
      have HO236:=zm (Kd.R_lower (zn (zn (zn (zn ho0 (zr HO224.out)) (zr HO227.out)) (zr HO230.out)) (zr HO233.out)) (below_size zl))
      have HO239:=zm (Kd.R_lower (zn (zn (zn (zn ho1 (zr HO224.out)) (zr HO227.out)) (zr HO230.out)) (zr HO233.out)) (below_size zl))
      replace HO224:=(zO2 HO224 hb ho0 ho1)
      replace HO227:=(zO2 HO227 hb ho0 ho1)
      replace HO230:=(zO2 HO230 hb ho0 ho1)
      replace HO233:=(zO2 HO233 hb ho0 ho1)
      replace BK218:=zbk BK218 hb
      replace BK219:=zbk BK219 hb
      replace BK241:=zbk BK241 hb
      replace HB:=zm (below_step zl hb)
      (try clear hb ho0 ho1)
      refine hK.out _ _ ⟨zcl BK218.out 0,zcl BK218.out 1,zcl BK219.out 0,zcl BK219.out 1⟩ (fun hHeld=>?_)
      clear hK K
      refine zO (some 32) ?_
      refine zP 5 (some 27) (zA 11 319) (any_of HT_.out (by kernel_rfl)) ?_
      refine zP 6 (some 33) (zA 11 383) (any_of HT_.out (by kernel_rfl)) ?_
      refine zP 7 (some 34) (zA 11 511) (any_of HT_.out (by kernel_rfl)) ?_
      exact norm_ (by simp only [putAll,Act.put,List.setIfInBounds_toArray,List.set_cons_zero,List.set_cons_succ]) (hCont (.slice Ao37 t222.length co37,.slice Ao38 t225.length co38,.slice Ao39 t228.length co39,.slice Ao40 t231.length co40,v235,v238,gb241) _ ⟨hHeld,(zr (Kd.R_mono HO224.out (fun _ hk=>⟨hk.1.1.1.1,hk.1.1.1.2,hk.1.1.2,hk.1.2,hk.2⟩))),(zr (Kd.R_mono HO227.out (fun _ hk=>⟨hk.1.1.1.1,hk.1.1.1.2,hk.1.1.2,hk.1.2,hk.2⟩))),(zr (Kd.R_mono HO230.out (fun _ hk=>⟨hk.1.1.1.2,hk.1.1.2,hk.1.1.1.1,hk.1.2,hk.2⟩))),(zr (Kd.R_mono HO233.out (fun _ hk=>⟨hk.1.1.1.2,hk.1.1.2,hk.1.1.1.1,hk.1.2,hk.2⟩))),(zr (Kd.R_mono HO236.out (fun _ hk=>⟨hk.1.1.1.2,hk.1.1.2,hk.1.2,hk.2,hk.1.1.1.1⟩))),(zr (Kd.R_mono HO239.out (fun _ hk=>⟨hk.1.1.1.2,hk.1.1.2,hk.1.2,hk.2,hk.1.1.1.1⟩))),(zb BK218.out),(zb BK219.out),(zb BK241.out),GW241.out,GE241.out,NB218_241.out,NB241_218.out,NB219_241.out,NB241_219.out,zl⟩)
    ·skip
     refine box_step ?hg (N:=6) ?hd (cs:=#[.slice none 0 0,.slice none 0 0]) (t:=49) ?hr ?_;(case hd=>rfl);(case hg=>rfl);(case hr=>first|(go_simp;done)|(go_simp;rfl))
     intro gb241 hg w34 hbox hb
     have BK241:=zm (hbox)
     have GW241:=zm ((by rw [hg];exact (below_size zl):w.heap.size≤gb241))
     have GE241:=GW241
     replace HB:=zm (below_step zl hb)
     have NB218_241:=zm (zl1 hg (zb BK218.out))
     have NB241_218:=zm (zl2 hg (zb BK218.out))
     replace BK218:=zbk BK218 hb
     have NB219_241:=zm (zl1 hg (zb BK219.out))
     have NB241_219:=zm (zl2 hg (zb BK219.out))
     replace BK219:=zbk BK219 hb
     clear hb hbox hg
     refine hK.out _ _ ⟨zcl BK218.out 0,zcl BK218.out 1,zcl BK219.out 0,zcl BK219.out 1⟩ (fun hHeld=>?_)
     clear hK K
     refine zO (some 6) ?_
     refine one_ (i:=1) (N:=some 29) (zA 11 263) rfl rfl (one_of HT_.out (by kernel_rfl)) (by decide) (fun K hK=>?_)
     refine goes_ Try.func25 (by kernel_rfl) rfl #[.agg #[.slice A0_0 l0_0.length c0_0,.slice A0_1 l0_1.length c0_1]] (by rfl) rfl rfl (by (try simp only [List.map_toArray,List.map_cons,List.map_nil]);first|done|rfl|(simp only [List.length_drop,List.length_take];rfl)) ?_
     with_reducible refine (laws_toSubstitution.calls k _ _ l0_0 _ _ l0_1 t222 t225 _ ?side1 ?side2 ?side3 ?side4 A19.out).mono ?_
     (case side1=>exact zc HR0_0.out)
     (case side2=>exact HC0_0.out)
     (case side3=>exact zc HR0_1.out)
     (case side4=>exact HC0_1.out)
     rintro e w35 ⟨v223,v226,rfl,ho0,ho1,hb⟩
     refine ⟨_,rfl,?_⟩
     have HO224:=zm (Kd.R_lower ho0 (below_size zl))
     have HO227:=zm (Kd.R_lower ho1 (below_size zl))
     replace BK218:=zbk BK218 hb
     replace BK219:=zbk BK219 hb
     replace BK241:=zbk BK241 hb
     replace HB:=zm (below_step zl hb)
     (try clear hb ho0 ho1)
     refine hK.out _ _ ⟨zcl BK218.out 0,zcl BK218.out 1,zcl BK219.out 0,zcl BK219.out 1⟩ (fun hHeld=>?_)
     clear hK K
     refine zO (some 29) ?_
     refine one_ (i:=3) (N:=some 31) (zA 11 271) rfl rfl (one_of HT_.out (by kernel_rfl)) (by decide) (fun K hK=>?_)
     refine goes_ Try.func25 (by kernel_rfl) rfl #[.agg #[.slice A1_0 l1_0.length c1_0,.slice A1_1 l1_1.length c1_1]] (by rfl) rfl rfl (by (try simp only [List.map_toArray,List.map_cons,List.map_nil]);first|done|rfl|(simp only [List.length_drop,List.length_take];rfl)) ?_
     with_reducible refine (laws_toSubstitution.calls k _ _ l1_0 _ _ l1_1 t228 t231 _ ?side1 ?side2 ?side3 ?side4 A20.out).mono ?_
     (case side1=>exact zc HR1_0.out)
     (case side2=>exact HC1_0.out)
     (case side3=>exact zc HR1_1.out)
     (case side4=>exact HC1_1.out)
     rintro e w36 ⟨v229,v232,rfl,ho0,ho1,hb⟩
     refine ⟨_,rfl,?_⟩
     have HO230:=zm (Kd.R_lower (zn (zn ho0 (zr HO224.out)) (zr HO227.out)) (below_size zl))
     have HO233:=zm (Kd.R_lower (zn (zn ho1 (zr HO224.out)) (zr HO227.out)) (below_size zl))
     replace HO224:=(zO2 HO224 hb ho0 ho1)
     replace HO227:=(zO2 HO227 hb ho0 ho1)
     replace BK218:=zbk BK218 hb
     replace BK219:=zbk BK219 hb
     replace BK241:=zbk BK241 hb
     replace HB:=zm (below_step zl hb)
     (try clear hb ho0 ho1)
     obtain ⟨Ao37,co37,eo37⟩:=Kd.R_slice HO224.out
     (first|subst eo37|(injection eo37 with f1_ f2_ f3_;obtain rfl:=f1_.symm;obtain rfl:=f3_.symm))
     obtain ⟨Ao38,co38,eo38⟩:=Kd.R_slice HO227.out
     (first|subst eo38|(injection eo38 with f1_ f2_ f3_;obtain rfl:=f1_.symm;obtain rfl:=f3_.symm))
     obtain ⟨Ao39,co39,eo39⟩:=Kd.R_slice HO230.out
     (first|subst eo39|(injection eo39 with f1_ f2_ f3_;obtain rfl:=f1_.symm;obtain rfl:=f3_.symm))
     obtain ⟨Ao40,co40,eo40⟩:=Kd.R_slice HO233.out
     (first|subst eo40|(injection eo40 with f1_ f2_ f3_;obtain rfl:=f1_.symm;obtain rfl:=f3_.symm))
     refine hK.out _ _ ⟨zcl BK218.out 0,zcl BK218.out 1,zcl BK219.out 0,zcl BK219.out 1⟩ (fun hHeld=>?_)
     clear hK K
     refine zO (some 31) ?_
     refine one_ (i:=4) (N:=some 32) (zA 11 287) rfl rfl (one_of HT_.out (by kernel_rfl)) (by decide) (fun K hK=>?_)
     refine goes_ Try.func24 (by kernel_rfl) rfl #[.agg #[.slice Ao37 t222.length co37,.slice Ao38 t225.length co38],.agg #[.slice Ao39 t228.length co39,.slice Ao40 t231.length co40]] (by rfl) rfl rfl (by (try simp only [List.map_toArray,List.map_cons,List.map_nil]);first|done|rfl|(simp only [List.length_drop,List.length_take];rfl)) ?_
     with_reducible refine (spec_Compose.calls k _ _ t222 _ _ t225 _ _ t228 _ _ t231 t234 t237 t240 _ ?side1 ?side2 ?side3 ?side4 ?side5 ?side6 ?side7 ?side8 A21.out).mono ?_
     (case side1=>exact zk HO224.out)
     (case side2=>exact (Kd.R_reads' HO224.out).2.1)
     (case side3=>exact zk HO227.out)
     (case side4=>exact (Kd.R_reads' HO227.out).2.1)
     (case side5=>exact zk HO230.out)
     (case side6=>exact (Kd.R_reads' HO230.out).2.1)
     (case side7=>exact zk HO233.out)
     (case side8=>exact (Kd.R_reads' HO233.out).2.1)
     rintro e w41 ⟨v235,v238,rfl,ho0,ho1,hb⟩
     refine ⟨_,rfl,?_⟩
     have HO236:=zm (Kd.R_lower (zn (zn (zn (zn ho0 (zr HO224.out)) (zr HO227.out)) (zr HO230.out)) (zr HO233.out)) (below_size zl))
     have HO239:=zm (Kd.R_lower (zn (zn (zn (zn ho1 (zr HO224.out)) (zr HO227.out)) (zr HO230.out)) (zr HO233.out)) (below_size zl))
     replace HO224:=(zO2 HO224 hb ho0 ho1)
     replace HO227:=(zO2 HO227 hb ho0 ho1)
     replace HO230:=(zO2 HO230 hb ho0 ho1)
     replace HO233:=(zO2 HO233 hb ho0 ho1)
     replace BK218:=zbk BK218 hb
     replace BK219:=zbk BK219 hb
     replace BK241:=zbk BK241 hb
     replace HB:=zm (below_step zl hb)
     (try clear hb ho0 ho1)
     refine hK.out _ _ ⟨zcl BK218.out 0,zcl BK218.out 1,zcl BK219.out 0,zcl BK219.out 1⟩ (fun hHeld=>?_)
     clear hK K
     refine zO (some 32) ?_
     refine zP 5 (some 27) (zA 11 319) (any_of HT_.out (by kernel_rfl)) ?_
     refine zP 6 (some 33) (zA 11 383) (any_of HT_.out (by kernel_rfl)) ?_
     refine zP 7 (some 34) (zA 11 511) (any_of HT_.out (by kernel_rfl)) ?_
     exact norm_ (by simp only [putAll,Act.put,List.setIfInBounds_toArray,List.set_cons_zero,List.set_cons_succ]) (hCont (.slice Ao37 t222.length co37,.slice Ao38 t225.length co38,.slice Ao39 t228.length co39,.slice Ao40 t231.length co40,v235,v238,gb241) _ ⟨hHeld,(zr (Kd.R_mono HO224.out (fun _ hk=>⟨hk.1.1.1.1,hk.1.1.1.2,hk.1.1.2,hk.1.2,hk.2⟩))),(zr (Kd.R_mono HO227.out (fun _ hk=>⟨hk.1.1.1.1,hk.1.1.1.2,hk.1.1.2,hk.1.2,hk.2⟩))),(zr (Kd.R_mono HO230.out (fun _ hk=>⟨hk.1.1.1.2,hk.1.1.2,hk.1.1.1.1,hk.1.2,hk.2⟩))),(zr (Kd.R_mono HO233.out (fun _ hk=>⟨hk.1.1.1.2,hk.1.1.2,hk.1.1.1.1,hk.1.2,hk.2⟩))),(zr (Kd.R_mono HO236.out (fun _ hk=>⟨hk.1.1.1.2,hk.1.1.2,hk.1.2,hk.2,hk.1.1.1.1⟩))),(zr (Kd.R_mono HO239.out (fun _ hk=>⟨hk.1.1.1.2,hk.1.1.2,hk.1.2,hk.2,hk.1.1.1.1⟩))),(zb BK218.out),(zb BK219.out),(zb BK241.out),GW241.out,GE241.out,NB218_241.out,NB241_218.out,NB219_241.out,NB241_219.out,zl⟩)
   rintro ⟨v223,v226,v229,v232,v235,v238,gb241⟩ w42 ⟨hS_,h0_,h1_,h2_,h3_,h4_,h5_,h6_,h7_,h8_,h9_,h10_,h11_,h12_,h13_,h14_,h15_⟩
   have n0_:Aside0 (Kd.R (Kd.int .i64) 3 w42 w.heap.size (fun k_=>zx v226 k_∧zx v229 k_∧zx v232 k_∧zx v235 k_∧zx v238 k_) v223 t222):=⟨h0_⟩
   have n1_:Aside0 (Kd.R (Kd.int .i64) 3 w42 w.heap.size (fun k_=>zx v223 k_∧zx v229 k_∧zx v232 k_∧zx v235 k_∧zx v238 k_) v226 t225):=⟨h1_⟩
   have n2_:Aside0 (Kd.R (Kd.int .i64) 3 w42 w.heap.size (fun k_=>zx v223 k_∧zx v226 k_∧zx v232 k_∧zx v235 k_∧zx v238 k_) v229 t228):=⟨h2_⟩
   have n3_:Aside0 (Kd.R (Kd.int .i64) 3 w42 w.heap.size (fun k_=>zx v223 k_∧zx v226 k_∧zx v229 k_∧zx v235 k_∧zx v238 k_) v232 t231):=⟨h3_⟩
   have n4_:Aside0 (Kd.R (Kd.int .i64) 3 w42 w.heap.size (fun k_=>zx v223 k_∧zx v226 k_∧zx v229 k_∧zx v232 k_∧zx v238 k_) v235 t234):=⟨h4_⟩
   have n5_:Aside0 (Kd.R (Kd.int .i64) 3 w42 w.heap.size (fun k_=>zx v223 k_∧zx v226 k_∧zx v229 k_∧zx v232 k_∧zx v235 k_) v238 t237):=⟨h5_⟩
   have n6_:Aside0 (w42.heap[gb218]? = some (.cells #[.slice A0_0 l0_0.length c0_0,.slice A0_1 l0_1.length c0_1] 47 (0,0))):=⟨h6_⟩
   have n7_:Aside0 (w42.heap[gb219]? = some (.cells #[.slice A1_0 l1_0.length c1_0,.slice A1_1 l1_1.length c1_1] 47 (0,0))):=⟨h7_⟩
   have n8_:Aside0 (w42.heap[gb241]? = some (.cells #[.slice none 0 0,.slice none 0 0] 49 (0,0))):=⟨h8_⟩
   have n9_:Aside0 (w.heap.size≤gb241):=⟨h9_⟩
   have n10_:Aside0 (w.heap.size≤gb241):=⟨h10_⟩
   have n11_:Aside0 (gb218≠gb241):=⟨h11_⟩
   have n12_:Aside0 (gb241≠gb218):=⟨h12_⟩
   have n13_:Aside0 (gb219≠gb241):=⟨h13_⟩
   have n14_:Aside0 (gb241≠gb219):=⟨h14_⟩
   have n15_:Aside0 (Below w.heap.size w w42):=⟨h15_⟩
   clear BK218
   clear BK219
   clear HB
   clear h0_ h1_ h2_ h3_ h4_ h5_ h6_ h7_ h8_ h9_ h10_ h11_ h12_ h13_ h14_ h15_
   have HO224:=n0_
   have HO227:=n1_
   have HO230:=n2_
   have HO233:=n3_
   have HO236:=n4_
   have HO239:=n5_
   have BK218:=n6_
   have BK219:=n7_
   have BK241:=n8_
   have GW241:=n9_
   have GE241:=n10_
   have NB218_241:=n11_
   have NB241_218:=n12_
   have NB219_241:=n13_
   have NB241_219:=n14_
   have HB:=n15_
   clear n0_ n1_ n2_ n3_ n4_ n5_ n6_ n7_ n8_ n9_ n10_ n11_ n12_ n13_ n14_ n15_
   have hHeld:w42.cell? ⟨gb218,0,none⟩ = some (.slice A0_0 l0_0.length c0_0)∧w42.cell? ⟨gb218,1,none⟩ = some (.slice A0_1 l0_1.length c0_1)∧w42.cell? ⟨gb219,0,none⟩ = some (.slice A1_0 l1_0.length c1_0)∧w42.cell? ⟨gb219,1,none⟩ = some (.slice A1_1 l1_1.length c1_1):=hS_
   obtain ⟨Ao43,co43,eo43⟩:=Kd.R_slice HO236.out
   (first|subst eo43|(injection eo43 with f1_ f2_ f3_;obtain rfl:=f1_.symm;obtain rfl:=f3_.symm))
   obtain ⟨Ao45,co45,eo45⟩:=Kd.R_slice HO239.out
   (first|subst eo45|(injection eo45 with f1_ f2_ f3_;obtain rfl:=f1_.symm;obtain rfl:=f3_.symm))
   refine norm_ (a':=?_) ?_ ?_
   rotate_left
   ·simp only [putAll,Act.put,List.setIfInBounds_toArray,List.set_cons_zero,List.set_cons_succ]
    rfl
   refine one_ (i:=9) (N:=none) (zA 11 1023) rfl rfl (one_of HT_.out (by kernel_rfl)) (by decide) (fun K hK=>?_)
   have hs44:w42.cell? ⟨gb241,0,none⟩ = some (.slice none 0 0):=zcl BK241.out 0
   have hfs44:=blk_frozen BK241.out 0
   have hns44_0:=NB218_241.out
   have hns44_1:=NB219_241.out
   have hms44_0:=NB241_218.out
   have hms44_1:=NB241_219.out
   have hs46:w42.cell? ⟨gb241,1,none⟩ = some (.slice none 0 0):=zcl BK241.out 1
   have hfs46:=blk_frozen BK241.out 1
   have hns46_0:=NB218_241.out
   have hns46_1:=NB219_241.out
   have hms46_0:=NB241_218.out
   have hms46_1:=NB241_219.out
   refine skip_ (w1:=?_) (by rfl) rfl ?_ ?_
   rotate_left
   ·go_simp
    rfl
   refine hK.out _ _ ⟨((cell_far (p:=⟨gb241,_,none⟩) NB218_241.out _).trans (((cell_far (p:=⟨gb241,_,none⟩) NB218_241.out _).trans (hHeld.1)))),((cell_far (p:=⟨gb241,_,none⟩) NB218_241.out _).trans (((cell_far (p:=⟨gb241,_,none⟩) NB218_241.out _).trans (hHeld.2.1)))),((cell_far (p:=⟨gb241,_,none⟩) NB219_241.out _).trans (((cell_far (p:=⟨gb241,_,none⟩) NB219_241.out _).trans (hHeld.2.2.1)))),((cell_far (p:=⟨gb241,_,none⟩) NB219_241.out _).trans (((cell_far (p:=⟨gb241,_,none⟩) NB219_241.out _).trans (hHeld.2.2.2))))⟩ (fun hHeld=>?_)
   clear hK K
   refine zP 10 (some 7) (zA 11 2047) (any_of HT_.out (by kernel_rfl)) ?_
   refine done_ (done_of HT_.out (by kernel_rfl)) ?_
   have hnb47:=NB218_241.out
   have hnc47:=NB241_218.out
   have hcz48_0:w42.cell? ⟨gb218,0,none⟩ = some (.slice A0_0 l0_0.length c0_0):=zcl BK218.out 0
   have hcz48_1:w42.cell? ⟨gb218,1,none⟩ = some (.slice A0_1 l0_1.length c0_1):=zcl BK218.out 1
   have hfz48_0:=blk_frozen BK218.out 0
   have hfz48_1:=blk_frozen BK218.out 1
   go_upto_region 12 with (first|((with_reducible refine gate_callee (f:=25) rfl ?_);have zq0:=zf2 HO224.out BK241.out 0 (.slice Ao43 t234.length co43) 1 (.slice Ao45 t237.length co45);have zq1:=zf2 HO227.out BK241.out 0 (.slice Ao43 t234.length co43) 1 (.slice Ao45 t237.length co45);have zq2:=zf2 HO230.out BK241.out 0 (.slice Ao43 t234.length co43) 1 (.slice Ao45 t237.length co45);have zq3:=zf2 HO233.out BK241.out 0 (.slice Ao43 t234.length co43) 1 (.slice Ao45 t237.length co45);have zq4:=zf2 HO236.out BK241.out 0 (.slice Ao43 t234.length co43) 1 (.slice Ao45 t237.length co45);have zq5:=zf2 HO239.out BK241.out 0 (.slice Ao43 t234.length co43) 1 (.slice Ao45 t237.length co45);refine zg (some 36) Try.func25 #[.agg #[.slice A0_0 l0_0.length c0_0,.slice A0_1 l0_1.length c0_1]] ?_;(with_reducible refine (laws_toSubstitution.calls k _ _ l0_0 _ _ l0_1 t242 t245 _ ?side1 ?side2 ?side3 ?side4 A22.out).mono ?_);(case side1=>exact Kd.C_below HR0_0.out zl);(case side2=>exact HC0_0.out);(case side3=>exact Kd.C_below HR0_1.out zl);(case side4=>exact HC0_1.out);rintro e w49 ⟨v243,v246,rfl,ho0,ho1,hb⟩;refine ⟨_,rfl,?_⟩;have HO244:=zm (Kd.R_lower (zn (zn (zn (zn (zn (zn ho0 (zr zq0)) (zr zq1)) (zr zq2)) (zr zq3)) (zr zq4)) (zr zq5)) (below_size zl));have HO247:=zm (Kd.R_lower (zn (zn (zn (zn (zn (zn ho1 (zr zq0)) (zr zq1)) (zr zq2)) (zr zq3)) (zr zq4)) (zr zq5)) (below_size zl));replace HO224:=zm (zo2 (zr zq0) hb ho0 ho1);replace HO227:=zm (zo2 (zr zq1) hb ho0 ho1);replace HO230:=zm (zo2 (zr zq2) hb ho0 ho1);replace HO233:=zm (zo2 (zr zq3) hb ho0 ho1);replace HO236:=zm (zo2 (zr zq4) hb ho0 ho1);replace HO239:=zm (zo2 (zr zq5) hb ho0 ho1);replace BK218:=zm (blk_below (g:=gb218) (o:=.cells #[.slice A0_0 l0_0.length c0_0,.slice A0_1 l0_1.length c0_1] 47 (0,0)) zbz hb);replace BK219:=zm (blk_below (g:=gb219) (o:=.cells #[.slice A1_0 l1_0.length c1_0,.slice A1_1 l1_1.length c1_1] 47 (0,0)) zbz hb);replace BK241:=zm (blk_below (g:=gb241) (o:=.cells #[.slice Ao43 t234.length co43,.slice Ao45 t237.length co45] 49 (0,0)) (by (with_reducible repeat (first|refine blk_drewN ?_ _|refine blk_drew ?_|refine blk_alloc ?_ _));refine blk_put (cs:=#[.slice Ao43 t234.length co43,.slice none 0 0]) ?_ 1 _ rfl;(with_reducible repeat (first|refine blk_drewN ?_ _|refine blk_drew ?_|refine blk_alloc ?_ _));refine blk_put (cs:=#[.slice none 0 0,.slice none 0 0]) ?_ 0 _ rfl;(with_reducible repeat (first|refine blk_drewN ?_ _|refine blk_drew ?_|refine blk_alloc ?_ _));exact BK241.out) hb);replace HB:=zm (below_step zl hb);(try clear hb ho0 ho1))|((with_reducible refine gate_dst (N:=8) rfl ?_);refine box_event ?hg (N:=8) ?hd (cs:=#[.slice none 0 0,.slice none 0 0]) (t:=49) ?hr ?_;(case hd=>rfl);(case hg=>rfl);(case hr=>first|(go_simp;done)|(go_simp;rfl));intro gb248 hg w50 hbox hb;replace HO224:=zRb HO224 hb;replace HO227:=zRb HO227 hb;replace HO230:=zRb HO230 hb;replace HO233:=zRb HO233 hb;replace HO236:=zRb HO236 hb;replace HO239:=zRb HO239 hb;replace HO244:=zRb HO244 hb;replace HO247:=zRb HO247 hb;have BK248:=zm (hbox);have GW248:=zm ((by rw [hg];exact (below_size zl):w.heap.size≤gb248));have GE248:=GW248;replace HB:=zm (below_step zl hb);have NB218_248:=zm (zl1 hg (zb BK218.out));have NB248_218:=zm (zl2 hg (zb BK218.out));replace BK218:=zbk BK218 hb;have NB219_248:=zm (zl1 hg (zb BK219.out));have NB248_219:=zm (zl2 hg (zb BK219.out));replace BK219:=zbk BK219 hb;have NB241_248:=zm (zl1 hg (zb BK241.out));have NB248_241:=zm (zl2 hg (zb BK241.out));replace BK241:=zbk BK241 hb;clear hb hbox hg;obtain ⟨Ao51,co51,eo51⟩:=Kd.R_slice HO244.out;subst eo51;have hnb52:=NB248_218.out;have hnc52:=NB218_248.out;have hnb53:=NB248_219.out;have hnc53:=NB219_248.out;have hnb54:=NB248_241.out;have hnc54:=NB241_248.out;have hcz55_0:w50.cell? ⟨gb248,0,none⟩ = some (.slice none 0 0):=zcl BK248.out 0;have hcz55_1:w50.cell? ⟨gb248,1,none⟩ = some (.slice none 0 0):=zcl BK248.out 1;have hfz55_0:=blk_frozen BK248.out 0;have hfz55_1:=blk_frozen BK248.out 1;obtain ⟨Ao56,co56,eo56⟩:=Kd.R_slice HO247.out;subst eo56;have hnb57:=NB219_241.out;have hnc57:=NB241_219.out;have hcz58_0:w50.cell? ⟨gb219,0,none⟩ = some (.slice A1_0 l1_0.length c1_0):=zcl BK219.out 0;have hcz58_1:w50.cell? ⟨gb219,1,none⟩ = some (.slice A1_1 l1_1.length c1_1):=zcl BK219.out 1;have hfz58_0:=blk_frozen BK219.out 0;have hfz58_1:=blk_frozen BK219.out 1)|((with_reducible refine gate_callee (f:=25) rfl ?_);have zq0:=zf2 HO224.out BK248.out 0 (.slice Ao51 t242.length co51) 1 (.slice Ao56 t245.length co56);have zq1:=zf2 HO227.out BK248.out 0 (.slice Ao51 t242.length co51) 1 (.slice Ao56 t245.length co56);have zq2:=zf2 HO230.out BK248.out 0 (.slice Ao51 t242.length co51) 1 (.slice Ao56 t245.length co56);have zq3:=zf2 HO233.out BK248.out 0 (.slice Ao51 t242.length co51) 1 (.slice Ao56 t245.length co56);have zq4:=zf2 HO236.out BK248.out 0 (.slice Ao51 t242.length co51) 1 (.slice Ao56 t245.length co56);have zq5:=zf2 HO239.out BK248.out 0 (.slice Ao51 t242.length co51) 1 (.slice Ao56 t245.length co56);have zq6:=zf2 HO244.out BK248.out 0 (.slice Ao51 t242.length co51) 1 (.slice Ao56 t245.length co56);have zq7:=zf2 HO247.out BK248.out 0 (.slice Ao51 t242.length co51) 1 (.slice Ao56 t245.length co56);refine zg (some 38) Try.func25 #[.agg #[.slice A1_0 l1_0.length c1_0,.slice A1_1 l1_1.length c1_1]] ?_;(with_reducible refine (laws_toSubstitution.calls k _ _ l1_0 _ _ l1_1 t249 t252 _ ?side1 ?side2 ?side3 ?side4 A23.out).mono ?_);(case side1=>exact Kd.C_below HR1_0.out zl);(case side2=>exact HC1_0.out);(case side3=>exact Kd.C_below HR1_1.out zl);(case side4=>exact HC1_1.out);rintro e w59 ⟨v250,v253,rfl,ho0,ho1,hb⟩;refine ⟨_,rfl,?_⟩;have HO251:=zm (Kd.R_lower (zn (zn (zn (zn (zn (zn (zn (zn ho0 (zr zq0)) (zr zq1)) (zr zq2)) (zr zq3)) (zr zq4)) (zr zq5)) (zr zq6)) (zr zq7)) (below_size zl));have HO254:=zm (Kd.R_lower (zn (zn (zn (zn (zn (zn (zn (zn ho1 (zr zq0)) (zr zq1)) (zr zq2)) (zr zq3)) (zr zq4)) (zr zq5)) (zr zq6)) (zr zq7)) (below_size zl));replace HO224:=zm (zo2 (zr zq0) hb ho0 ho1);replace HO227:=zm (zo2 (zr zq1) hb ho0 ho1);replace HO230:=zm (zo2 (zr zq2) hb ho0 ho1);replace HO233:=zm (zo2 (zr zq3) hb ho0 ho1);replace HO236:=zm (zo2 (zr zq4) hb ho0 ho1);replace HO239:=zm (zo2 (zr zq5) hb ho0 ho1);replace HO244:=zm (zo2 (zr zq6) hb ho0 ho1);replace HO247:=zm (zo2 (zr zq7) hb ho0 ho1);replace BK218:=zm (blk_below (g:=gb218) (o:=.cells #[.slice A0_0 l0_0.length c0_0,.slice A0_1 l0_1.length c0_1] 47 (0,0)) (by (with_reducible repeat (first|refine blk_drewN ?_ _|refine blk_drew ?_|refine blk_alloc ?_ _));refine blk_far ?_ NB218_248.out _;(with_reducible repeat (first|refine blk_drewN ?_ _|refine blk_drew ?_|refine blk_alloc ?_ _));refine blk_far ?_ NB218_248.out _;(with_reducible repeat (first|refine blk_drewN ?_ _|refine blk_drew ?_|refine blk_alloc ?_ _));exact BK218.out) hb);replace BK219:=zm (blk_below (g:=gb219) (o:=.cells #[.slice A1_0 l1_0.length c1_0,.slice A1_1 l1_1.length c1_1] 47 (0,0)) zbz hb);replace BK241:=zm (blk_below (g:=gb241) (o:=.cells #[.slice Ao43 t234.length co43,.slice Ao45 t237.length co45] 49 (0,0)) zbz hb);replace BK248:=zm (blk_below (g:=gb248) (o:=.cells #[.slice Ao51 t242.length co51,.slice Ao56 t245.length co56] 49 (0,0)) (by (with_reducible repeat (first|refine blk_drewN ?_ _|refine blk_drew ?_|refine blk_alloc ?_ _));refine blk_put (cs:=#[.slice Ao51 t242.length co51,.slice none 0 0]) ?_ 1 _ rfl;(with_reducible repeat (first|refine blk_drewN ?_ _|refine blk_drew ?_|refine blk_alloc ?_ _));refine blk_put (cs:=#[.slice none 0 0,.slice none 0 0]) ?_ 0 _ rfl;(with_reducible repeat (first|refine blk_drewN ?_ _|refine blk_drew ?_|refine blk_alloc ?_ _));exact BK248.out) hb);replace HB:=zm (below_step zl hb);(try clear hb ho0 ho1))|((with_reducible refine gate_dst (N:=9) rfl ?_);refine box_event ?hg (N:=9) ?hd (cs:=#[.slice none 0 0,.slice none 0 0]) (t:=49) ?hr ?_;(case hd=>rfl);(case hg=>rfl);(case hr=>first|(go_simp;done)|(go_simp;rfl));intro gb255 hg w60 hbox hb;replace HO224:=zRb HO224 hb;replace HO227:=zRb HO227 hb;replace HO230:=zRb HO230 hb;replace HO233:=zRb HO233 hb;replace HO236:=zRb HO236 hb;replace HO239:=zRb HO239 hb;replace HO244:=zRb HO244 hb;replace HO247:=zRb HO247 hb;replace HO251:=zRb HO251 hb;replace HO254:=zRb HO254 hb;have BK255:=zm (hbox);have GW255:=zm ((by rw [hg];exact (below_size zl):w.heap.size≤gb255));have GE255:=GW255;replace HB:=zm (below_step zl hb);have NB218_255:=zm (zl1 hg (zb BK218.out));have NB255_218:=zm (zl2 hg (zb BK218.out));replace BK218:=zbk BK218 hb;have NB219_255:=zm (zl1 hg (zb BK219.out));have NB255_219:=zm (zl2 hg (zb BK219.out));replace BK219:=zbk BK219 hb;have NB241_255:=zm (zl1 hg (zb BK241.out));have NB255_241:=zm (zl2 hg (zb BK241.out));replace BK241:=zbk BK241 hb;have NB248_255:=zm (zl1 hg (zb BK248.out));have NB255_248:=zm (zl2 hg (zb BK248.out));replace BK248:=zbk BK248 hb;clear hb hbox hg;obtain ⟨Ao61,co61,eo61⟩:=Kd.R_slice HO251.out;subst eo61;have hnb62:=NB255_218.out;have hnc62:=NB218_255.out;have hnb63:=NB255_219.out;have hnc63:=NB219_255.out;have hnb64:=NB255_241.out;have hnc64:=NB241_255.out;have hnb65:=NB255_248.out;have hnc65:=NB248_255.out;have hcz66_0:w60.cell? ⟨gb255,0,none⟩ = some (.slice none 0 0):=zcl BK255.out 0;have hcz66_1:w60.cell? ⟨gb255,1,none⟩ = some (.slice none 0 0):=zcl BK255.out 1;have hfz66_0:=blk_frozen BK255.out 0;have hfz66_1:=blk_frozen BK255.out 1;obtain ⟨Ao67,co67,eo67⟩:=Kd.R_slice HO254.out;subst eo67)|((with_reducible refine gate_store (t:=49) (p:=9) rfl ?_);refine store_event (t:=49) (p:=9) (v:=?vo_w68) (w1:=((w60.setCell ⟨gb255,0,none⟩ (.slice Ao61 t249.length co61)).setCell ⟨gb255,1,none⟩ (.slice Ao67 t252.length co67))) ?hg ?ho ?hn ?hr ?_;(case ho=>rfl);(case hg=>rfl);(case hn=>rfl);(case hr=>first|(go_simp;done)|(go_simp;rfl));intro w68 hw;have n0_:Aside0 (Kd.R (Kd.int .i64) 3 w68 w.heap.size (fun k_=>zx v226 k_∧zx v229 k_∧zx v232 k_∧zx (sv Ao43 t234 co43) k_∧zx (sv Ao45 t237 co45) k_∧zx (sv Ao51 t242 co51) k_∧zx (sv Ao56 t245 co56) k_∧zx (sv Ao61 t249 co61) k_∧zx (sv Ao67 t252 co67) k_) v223 t222):=⟨(by rw [hw];exact (zr (Kd.R_mono (Kd.R_far (p:=⟨gb255,1,none⟩) (Kd.R_far (p:=⟨gb255,0,none⟩) (Kd.R_types HO224.out BK255.out (by decide)) (fun _ hk=>hk.2) (.slice Ao61 t249.length co61)) (fun _ hk=>hk.2) (.slice Ao67 t252.length co67)) (fun _ hk=>⟨hk.1.1.1.1.1.1,hk.1.1.1.1.1.2.1,hk.1.1.1.1.1.2.2.1,hk.1.1.1.1.1.2.2.2.1,hk.1.1.1.1.1.2.2.2.2,hk.1.1.1.1.2,hk.1.1.1.2,hk.1.1.2,hk.1.2⟩))))⟩;have n1_:Aside0 (Kd.R (Kd.int .i64) 3 w68 w.heap.size (fun k_=>zx v223 k_∧zx v229 k_∧zx v232 k_∧zx (sv Ao43 t234 co43) k_∧zx (sv Ao45 t237 co45) k_∧zx (sv Ao51 t242 co51) k_∧zx (sv Ao56 t245 co56) k_∧zx (sv Ao61 t249 co61) k_∧zx (sv Ao67 t252 co67) k_) v226 t225):=⟨(by rw [hw];exact (zr (Kd.R_mono (Kd.R_far (p:=⟨gb255,1,none⟩) (Kd.R_far (p:=⟨gb255,0,none⟩) (Kd.R_types HO227.out BK255.out (by decide)) (fun _ hk=>hk.2) (.slice Ao61 t249.length co61)) (fun _ hk=>hk.2) (.slice Ao67 t252.length co67)) (fun _ hk=>⟨hk.1.1.1.1.1.1,hk.1.1.1.1.1.2.1,hk.1.1.1.1.1.2.2.1,hk.1.1.1.1.1.2.2.2.1,hk.1.1.1.1.1.2.2.2.2,hk.1.1.1.1.2,hk.1.1.1.2,hk.1.1.2,hk.1.2⟩))))⟩;have n2_:Aside0 (Kd.R (Kd.int .i64) 3 w68 w.heap.size (fun k_=>zx v223 k_∧zx v226 k_∧zx v232 k_∧zx (sv Ao43 t234 co43) k_∧zx (sv Ao45 t237 co45) k_∧zx (sv Ao51 t242 co51) k_∧zx (sv Ao56 t245 co56) k_∧zx (sv Ao61 t249 co61) k_∧zx (sv Ao67 t252 co67) k_) v229 t228):=⟨(by rw [hw];exact (zr (Kd.R_mono (Kd.R_far (p:=⟨gb255,1,none⟩) (Kd.R_far (p:=⟨gb255,0,none⟩) (Kd.R_types HO230.out BK255.out (by decide)) (fun _ hk=>hk.2) (.slice Ao61 t249.length co61)) (fun _ hk=>hk.2) (.slice Ao67 t252.length co67)) (fun _ hk=>⟨hk.1.1.1.1.1.1,hk.1.1.1.1.1.2.1,hk.1.1.1.1.1.2.2.1,hk.1.1.1.1.1.2.2.2.1,hk.1.1.1.1.1.2.2.2.2,hk.1.1.1.1.2,hk.1.1.1.2,hk.1.1.2,hk.1.2⟩))))⟩;have n3_:Aside0 (Kd.R (Kd.int .i64) 3 w68 w.heap.size (fun k_=>zx v223 k_∧zx v226 k_∧zx v229 k_∧zx (sv Ao43 t234 co43) k_∧zx (sv Ao45 t237 co45) k_∧zx (sv Ao51 t242 co51) k_∧zx (sv Ao56 t245 co56) k_∧zx (sv Ao61 t249 co61) k_∧zx (sv Ao67 t252 co67) k_) v232 t231):=⟨(by rw [hw];exact (zr (Kd.R_mono (Kd.R_far (p:=⟨gb255,1,none⟩) (Kd.R_far (p:=⟨gb255,0,none⟩) (Kd.R_types HO233.out BK255.out (by decide)) (fun _ hk=>hk.2) (.slice Ao61 t249.length co61)) (fun _ hk=>hk.2) (.slice Ao67 t252.length co67)) (fun _ hk=>⟨hk.1.1.1.1.1.1,hk.1.1.1.1.1.2.1,hk.1.1.1.1.1.2.2.1,hk.1.1.1.1.1.2.2.2.1,hk.1.1.1.1.1.2.2.2.2,hk.1.1.1.1.2,hk.1.1.1.2,hk.1.1.2,hk.1.2⟩))))⟩;have n4_:Aside0 (Kd.R (Kd.int .i64) 3 w68 w.heap.size (fun k_=>zx v223 k_∧zx v226 k_∧zx v229 k_∧zx v232 k_∧zx (sv Ao45 t237 co45) k_∧zx (sv Ao51 t242 co51) k_∧zx (sv Ao56 t245 co56) k_∧zx (sv Ao61 t249 co61) k_∧zx (sv Ao67 t252 co67) k_) (.slice Ao43 t234.length co43) t234):=⟨(by rw [hw];exact (zr (Kd.R_mono (Kd.R_far (p:=⟨gb255,1,none⟩) (Kd.R_far (p:=⟨gb255,0,none⟩) (Kd.R_types HO236.out BK255.out (by decide)) (fun _ hk=>hk.2) (.slice Ao61 t249.length co61)) (fun _ hk=>hk.2) (.slice Ao67 t252.length co67)) (fun _ hk=>⟨hk.1.1.1.1.1.1,hk.1.1.1.1.1.2.1,hk.1.1.1.1.1.2.2.1,hk.1.1.1.1.1.2.2.2.1,hk.1.1.1.1.1.2.2.2.2,hk.1.1.1.1.2,hk.1.1.1.2,hk.1.1.2,hk.1.2⟩))))⟩;have n5_:Aside0 (Kd.R (Kd.int .i64) 3 w68 w.heap.size (fun k_=>zx v223 k_∧zx v226 k_∧zx v229 k_∧zx v232 k_∧zx (sv Ao43 t234 co43) k_∧zx (sv Ao51 t242 co51) k_∧zx (sv Ao56 t245 co56) k_∧zx (sv Ao61 t249 co61) k_∧zx (sv Ao67 t252 co67) k_) (.slice Ao45 t237.length co45) t237):=⟨(by rw [hw];exact (zr (Kd.R_mono (Kd.R_far (p:=⟨gb255,1,none⟩) (Kd.R_far (p:=⟨gb255,0,none⟩) (Kd.R_types HO239.out BK255.out (by decide)) (fun _ hk=>hk.2) (.slice Ao61 t249.length co61)) (fun _ hk=>hk.2) (.slice Ao67 t252.length co67)) (fun _ hk=>⟨hk.1.1.1.1.1.1,hk.1.1.1.1.1.2.1,hk.1.1.1.1.1.2.2.1,hk.1.1.1.1.1.2.2.2.1,hk.1.1.1.1.1.2.2.2.2,hk.1.1.1.1.2,hk.1.1.1.2,hk.1.1.2,hk.1.2⟩))))⟩;have n6_:Aside0 (Kd.R (Kd.int .i64) 3 w68 w.heap.size (fun k_=>zx v223 k_∧zx v226 k_∧zx v229 k_∧zx v232 k_∧zx (sv Ao43 t234 co43) k_∧zx (sv Ao45 t237 co45) k_∧zx (sv Ao56 t245 co56) k_∧zx (sv Ao61 t249 co61) k_∧zx (sv Ao67 t252 co67) k_) (.slice Ao51 t242.length co51) t242):=⟨(by rw [hw];exact (zr (Kd.R_mono (Kd.R_far (p:=⟨gb255,1,none⟩) (Kd.R_far (p:=⟨gb255,0,none⟩) (Kd.R_types HO244.out BK255.out (by decide)) (fun _ hk=>hk.2) (.slice Ao61 t249.length co61)) (fun _ hk=>hk.2) (.slice Ao67 t252.length co67)) (fun _ hk=>⟨hk.1.1.1.1.1.1.1.1.2,hk.1.1.1.1.1.1.1.2,hk.1.1.1.1.1.1.2,hk.1.1.1.1.1.2,hk.1.1.1.1.2,hk.1.1.1.2,hk.1.1.1.1.1.1.1.1.1,hk.1.1.2,hk.1.2⟩))))⟩;have n7_:Aside0 (Kd.R (Kd.int .i64) 3 w68 w.heap.size (fun k_=>zx v223 k_∧zx v226 k_∧zx v229 k_∧zx v232 k_∧zx (sv Ao43 t234 co43) k_∧zx (sv Ao45 t237 co45) k_∧zx (sv Ao51 t242 co51) k_∧zx (sv Ao61 t249 co61) k_∧zx (sv Ao67 t252 co67) k_) (.slice Ao56 t245.length co56) t245):=⟨(by rw [hw];exact (zr (Kd.R_mono (Kd.R_far (p:=⟨gb255,1,none⟩) (Kd.R_far (p:=⟨gb255,0,none⟩) (Kd.R_types HO247.out BK255.out (by decide)) (fun _ hk=>hk.2) (.slice Ao61 t249.length co61)) (fun _ hk=>hk.2) (.slice Ao67 t252.length co67)) (fun _ hk=>⟨hk.1.1.1.1.1.1.1.1.2,hk.1.1.1.1.1.1.1.2,hk.1.1.1.1.1.1.2,hk.1.1.1.1.1.2,hk.1.1.1.1.2,hk.1.1.1.2,hk.1.1.1.1.1.1.1.1.1,hk.1.1.2,hk.1.2⟩))))⟩;have n8_:Aside0 (Kd.R (Kd.int .i64) 3 w68 w.heap.size (fun k_=>zx v223 k_∧zx v226 k_∧zx v229 k_∧zx v232 k_∧zx (sv Ao43 t234 co43) k_∧zx (sv Ao45 t237 co45) k_∧zx (sv Ao51 t242 co51) k_∧zx (sv Ao56 t245 co56) k_∧zx (sv Ao67 t252 co67) k_) (.slice Ao61 t249.length co61) t249):=⟨(by rw [hw];exact (zr (Kd.R_mono (Kd.R_far (p:=⟨gb255,1,none⟩) (Kd.R_far (p:=⟨gb255,0,none⟩) (Kd.R_types HO251.out BK255.out (by decide)) (fun _ hk=>hk.2) (.slice Ao61 t249.length co61)) (fun _ hk=>hk.2) (.slice Ao67 t252.length co67)) (fun _ hk=>⟨hk.1.1.1.1.1.1.1.1.2,hk.1.1.1.1.1.1.1.2,hk.1.1.1.1.1.1.2,hk.1.1.1.1.1.2,hk.1.1.1.1.2,hk.1.1.1.2,hk.1.1.2,hk.1.2,hk.1.1.1.1.1.1.1.1.1⟩))))⟩;have n9_:Aside0 (Kd.R (Kd.int .i64) 3 w68 w.heap.size (fun k_=>zx v223 k_∧zx v226 k_∧zx v229 k_∧zx v232 k_∧zx (sv Ao43 t234 co43) k_∧zx (sv Ao45 t237 co45) k_∧zx (sv Ao51 t242 co51) k_∧zx (sv Ao56 t245 co56) k_∧zx (sv Ao61 t249 co61) k_) (.slice Ao67 t252.length co67) t252):=⟨(by rw [hw];exact (zr (Kd.R_mono (Kd.R_far (p:=⟨gb255,1,none⟩) (Kd.R_far (p:=⟨gb255,0,none⟩) (Kd.R_types HO254.out BK255.out (by decide)) (fun _ hk=>hk.2) (.slice Ao61 t249.length co61)) (fun _ hk=>hk.2) (.slice Ao67 t252.length co67)) (fun _ hk=>⟨hk.1.1.1.1.1.1.1.1.2,hk.1.1.1.1.1.1.1.2,hk.1.1.1.1.1.1.2,hk.1.1.1.1.1.2,hk.1.1.1.1.2,hk.1.1.1.2,hk.1.1.2,hk.1.2,hk.1.1.1.1.1.1.1.1.1⟩))))⟩;have n10_:Aside0 (w68.heap[gb218]? = some (.cells #[.slice A0_0 l0_0.length c0_0,.slice A0_1 l0_1.length c0_1] 47 (0,0))):=⟨(by rw [hw];exact (by (with_reducible repeat (first|refine blk_drewN ?_ _|refine blk_drew ?_|refine blk_alloc ?_ _));refine blk_far ?_ NB218_255.out _;(with_reducible repeat (first|refine blk_drewN ?_ _|refine blk_drew ?_|refine blk_alloc ?_ _));refine blk_far ?_ NB218_255.out _;(with_reducible repeat (first|refine blk_drewN ?_ _|refine blk_drew ?_|refine blk_alloc ?_ _));exact BK218.out))⟩;have n11_:Aside0 (w68.heap[gb219]? = some (.cells #[.slice A1_0 l1_0.length c1_0,.slice A1_1 l1_1.length c1_1] 47 (0,0))):=⟨(by rw [hw];exact (by (with_reducible repeat (first|refine blk_drewN ?_ _|refine blk_drew ?_|refine blk_alloc ?_ _));refine blk_far ?_ NB219_255.out _;(with_reducible repeat (first|refine blk_drewN ?_ _|refine blk_drew ?_|refine blk_alloc ?_ _));refine blk_far ?_ NB219_255.out _;(with_reducible repeat (first|refine blk_drewN ?_ _|refine blk_drew ?_|refine blk_alloc ?_ _));exact BK219.out))⟩;have n12_:Aside0 (w68.heap[gb241]? = some (.cells #[.slice Ao43 t234.length co43,.slice Ao45 t237.length co45] 49 (0,0))):=⟨(by rw [hw];exact (by (with_reducible repeat (first|refine blk_drewN ?_ _|refine blk_drew ?_|refine blk_alloc ?_ _));refine blk_far ?_ NB241_255.out _;(with_reducible repeat (first|refine blk_drewN ?_ _|refine blk_drew ?_|refine blk_alloc ?_ _));refine blk_far ?_ NB241_255.out _;(with_reducible repeat (first|refine blk_drewN ?_ _|refine blk_drew ?_|refine blk_alloc ?_ _));exact BK241.out))⟩;have n13_:Aside0 (w68.heap[gb248]? = some (.cells #[.slice Ao51 t242.length co51,.slice Ao56 t245.length co56] 49 (0,0))):=⟨(by rw [hw];exact (by (with_reducible repeat (first|refine blk_drewN ?_ _|refine blk_drew ?_|refine blk_alloc ?_ _));refine blk_far ?_ NB248_255.out _;(with_reducible repeat (first|refine blk_drewN ?_ _|refine blk_drew ?_|refine blk_alloc ?_ _));refine blk_far ?_ NB248_255.out _;(with_reducible repeat (first|refine blk_drewN ?_ _|refine blk_drew ?_|refine blk_alloc ?_ _));exact BK248.out))⟩;have n14_:Aside0 (w68.heap[gb255]? = some (.cells #[.slice Ao61 t249.length co61,.slice Ao67 t252.length co67] 49 (0,0))):=⟨(by rw [hw];exact (by (with_reducible repeat (first|refine blk_drewN ?_ _|refine blk_drew ?_|refine blk_alloc ?_ _));refine blk_put (cs:=#[.slice Ao61 t249.length co61,.slice none 0 0]) ?_ 1 _ rfl;(with_reducible repeat (first|refine blk_drewN ?_ _|refine blk_drew ?_|refine blk_alloc ?_ _));refine blk_put (cs:=#[.slice none 0 0,.slice none 0 0]) ?_ 0 _ rfl;(with_reducible repeat (first|refine blk_drewN ?_ _|refine blk_drew ?_|refine blk_alloc ?_ _));exact BK255.out))⟩;have n15_:Aside0 (Below w.heap.size w w68):=⟨(by rw [hw];exact zl)⟩;clear hw;clear HO224;clear HO227;clear HO230;clear HO233;clear HO236;clear HO239;clear HO244;clear HO247;clear HO251;clear HO254;clear BK218;clear BK219;clear BK241;clear BK248;clear BK255;clear HB;have HO224:=n0_;have HO227:=n1_;have HO230:=n2_;have HO233:=n3_;have HO236:=n4_;have HO239:=n5_;have HO244:=n6_;have HO247:=n7_;have HO251:=n8_;have HO254:=n9_;have BK218:=n10_;have BK219:=n11_;have BK241:=n12_;have BK248:=n13_;have BK255:=n14_;have HB:=n15_;clear n0_ n1_ n2_ n3_ n4_ n5_ n6_ n7_ n8_ n9_ n10_ n11_ n12_ n13_ n14_ n15_;have hcz69_0:w68.cell? ⟨gb248,0,none⟩ = some (.slice Ao51 t242.length co51):=zcl BK248.out 0;have hcz69_1:w68.cell? ⟨gb248,1,none⟩ = some (.slice Ao56 t245.length co56):=zcl BK248.out 1;have hfz69_0:=blk_frozen BK248.out 0;have hfz69_1:=blk_frozen BK248.out 1;have hcz70_0:w68.cell? ⟨gb255,0,none⟩ = some (.slice Ao61 t249.length co61):=zcl BK255.out 0;have hcz70_1:w68.cell? ⟨gb255,1,none⟩ = some (.slice Ao67 t252.length co67):=zcl BK255.out 1;have hfz70_0:=blk_frozen BK255.out 0;have hfz70_1:=blk_frozen BK255.out 1)|((with_reducible refine gate_callee (f:=26) rfl ?_);refine zg (some 42) Try.func26 #[.agg #[.slice Ao51 t242.length co51,.slice Ao56 t245.length co56],.agg #[.slice Ao61 t249.length co61,.slice Ao67 t252.length co67]] ?_;(with_reducible refine (impl_Compose.calls k (fun k_=>some k_ = (.slice Ao51 t242.length co51:Value).ownBlock) _ _ t242 _ _ t245 (fun k_=>some k_ = (.slice Ao61 t249.length co61:Value).ownBlock) _ _ t249 _ _ t252 t256 t259 t262 _ ?side1 ?side2 ?side3 ?side4 ?side5 ?side6 A24.out).mono ?_);(case side1=>exact Kd.R_V (Kd.R_tight rfl (Kd.R_types (Kd.R_types (Kd.R_types (Kd.R_types (Kd.R_types (HO244.out) BK218.out (by decide)) BK219.out (by decide)) BK241.out (by decide)) BK248.out (by decide)) BK255.out (by decide))));(case side2=>exact zk HO247.out);(case side3=>exact (Kd.R_reads' HO247.out).2.1);(case side4=>exact Kd.R_V (Kd.R_tight rfl (Kd.R_types (Kd.R_types (Kd.R_types (Kd.R_types (Kd.R_types (HO251.out) BK218.out (by decide)) BK219.out (by decide)) BK241.out (by decide)) BK248.out (by decide)) BK255.out (by decide))));(case side5=>exact zk HO254.out);(case side6=>exact (Kd.R_reads' HO254.out).2.1);rintro e w71 ⟨v257,v260,rfl,ho0,ho1,hb⟩;refine ⟨_,rfl,?_⟩;have HO258:=zm (Kd.R_lower (zn (zn (zn (zn (zn (zn (zn (zn (zn (zn (Kd.R_mono (ok':=fun k_=>zx v260 k_) ho0 (fun _ hk_=>hk_.2)) (zr HO224.out)) (zr HO227.out)) (zr HO230.out)) (zr HO233.out)) (zr HO236.out)) (zr HO239.out)) (zr HO244.out)) (zr HO247.out)) (zr HO251.out)) (zr HO254.out)) (below_size zl));have HO261:=zm (Kd.R_lower (zn (zn (zn (zn (zn (zn (zn (zn (zn (zn (Kd.R_mono (ok':=fun k_=>zx v257 k_) ho1 (fun _ hk_=>hk_.2)) (zr HO224.out)) (zr HO227.out)) (zr HO230.out)) (zr HO233.out)) (zr HO236.out)) (zr HO239.out)) (zr HO244.out)) (zr HO247.out)) (zr HO251.out)) (zr HO254.out)) (below_size zl));replace HO224:=(zO2 HO224 hb ho0 ho1);replace HO227:=(zO2 HO227 hb ho0 ho1);replace HO230:=(zO2 HO230 hb ho0 ho1);replace HO233:=(zO2 HO233 hb ho0 ho1);replace HO236:=(zO2 HO236 hb ho0 ho1);replace HO239:=(zO2 HO239 hb ho0 ho1);replace HO244:=(zO2 HO244 hb ho0 ho1);replace HO247:=(zO2 HO247 hb ho0 ho1);replace HO251:=(zO2 HO251 hb ho0 ho1);replace HO254:=(zO2 HO254 hb ho0 ho1);replace BK218:=zbk BK218 hb;replace BK219:=zbk BK219 hb;replace BK241:=zbk BK241 hb;replace BK248:=zbk BK248 hb;replace BK255:=zbk BK255 hb;replace HB:=zm (below_step zl hb);(try clear hb ho0 ho1))|((with_reducible refine gate_dst (N:=10) rfl ?_);refine box_event ?hg (N:=10) ?hd (cs:=#[.slice none 0 0,.slice none 0 0]) (t:=49) ?hr ?_;(case hd=>rfl);(case hg=>rfl);(case hr=>first|(go_simp;done)|(go_simp;rfl));intro gb263 hg w72 hbox hb;replace HO224:=zRb HO224 hb;replace HO227:=zRb HO227 hb;replace HO230:=zRb HO230 hb;replace HO233:=zRb HO233 hb;replace HO236:=zRb HO236 hb;replace HO239:=zRb HO239 hb;replace HO244:=zRb HO244 hb;replace HO247:=zRb HO247 hb;replace HO251:=zRb HO251 hb;replace HO254:=zRb HO254 hb;replace HO258:=zRb HO258 hb;replace HO261:=zRb HO261 hb;have BK263:=zm (hbox);have GW263:=zm ((by rw [hg];exact (below_size zl):w.heap.size≤gb263));have GE263:=GW263;replace HB:=zm (below_step zl hb);have NB218_263:=zm (zl1 hg (zb BK218.out));have NB263_218:=zm (zl2 hg (zb BK218.out));replace BK218:=zbk BK218 hb;have NB219_263:=zm (zl1 hg (zb BK219.out));have NB263_219:=zm (zl2 hg (zb BK219.out));replace BK219:=zbk BK219 hb;have NB241_263:=zm (zl1 hg (zb BK241.out));have NB263_241:=zm (zl2 hg (zb BK241.out));replace BK241:=zbk BK241 hb;have NB248_263:=zm (zl1 hg (zb BK248.out));have NB263_248:=zm (zl2 hg (zb BK248.out));replace BK248:=zbk BK248 hb;have NB255_263:=zm (zl1 hg (zb BK255.out));have NB263_255:=zm (zl2 hg (zb BK255.out));replace BK255:=zbk BK255 hb;clear hb hbox hg;obtain ⟨Ao73,co73,eo73⟩:=Kd.R_slice HO258.out;subst eo73;have hnb74:=NB263_218.out;have hnc74:=NB218_263.out;have hnb75:=NB263_219.out;have hnc75:=NB219_263.out;have hnb76:=NB263_241.out;have hnc76:=NB241_263.out;have hnb77:=NB263_248.out;have hnc77:=NB248_263.out;have hnb78:=NB263_255.out;have hnc78:=NB255_263.out;have hcz79_0:w72.cell? ⟨gb263,0,none⟩ = some (.slice none 0 0):=zcl BK263.out 0;have hcz79_1:w72.cell? ⟨gb263,1,none⟩ = some (.slice none 0 0):=zcl BK263.out 1;have hfz79_0:=blk_frozen BK263.out 0;have hfz79_1:=blk_frozen BK263.out 1;obtain ⟨Ao80,co80,eo80⟩:=Kd.R_slice HO261.out;subst eo80))
   (try simp only [Act.put,List.setIfInBounds_toArray,List.set_cons_zero,List.set_cons_succ])
   go_cut [53] (fun v53 wc=>∃ (kq:Nat) (x53_24:Bool),v53 = .bool x53_24∧Aside0 (laws_FnExactCompose.j0 kq t240 t262 x53_24 l0_0 l0_1 l1_0 l1_1 t234 t237 t242 t245 t249 t252 t256 t259 = some true)∧Aside0 (kq≤k)∧Aside0 (Kd.R (Kd.int .i64) 3 wc w.heap.size (fun k_=>zx (sv Ao45 t237 co45) k_∧zx (sv Ao51 t242 co51) k_∧zx (sv Ao56 t245 co56) k_∧zx (sv Ao61 t249 co61) k_∧zx (sv Ao67 t252 co67) k_∧zx (sv Ao73 t256 co73) k_∧zx (sv Ao80 t259 co80) k_) (.slice Ao43 t234.length co43) t234)∧Aside0 (Kd.R (Kd.int .i64) 3 wc w.heap.size (fun k_=>zx (sv Ao43 t234 co43) k_∧zx (sv Ao51 t242 co51) k_∧zx (sv Ao56 t245 co56) k_∧zx (sv Ao61 t249 co61) k_∧zx (sv Ao67 t252 co67) k_∧zx (sv Ao73 t256 co73) k_∧zx (sv Ao80 t259 co80) k_) (.slice Ao45 t237.length co45) t237)∧Aside0 (Kd.R (Kd.int .i64) 3 wc w.heap.size (fun k_=>zx (sv Ao43 t234 co43) k_∧zx (sv Ao45 t237 co45) k_∧zx (sv Ao56 t245 co56) k_∧zx (sv Ao61 t249 co61) k_∧zx (sv Ao67 t252 co67) k_∧zx (sv Ao73 t256 co73) k_∧zx (sv Ao80 t259 co80) k_) (.slice Ao51 t242.length co51) t242)∧Aside0 (Kd.R (Kd.int .i64) 3 wc w.heap.size (fun k_=>zx (sv Ao43 t234 co43) k_∧zx (sv Ao45 t237 co45) k_∧zx (sv Ao51 t242 co51) k_∧zx (sv Ao61 t249 co61) k_∧zx (sv Ao67 t252 co67) k_∧zx (sv Ao73 t256 co73) k_∧zx (sv Ao80 t259 co80) k_) (.slice Ao56 t245.length co56) t245)∧Aside0 (Kd.R (Kd.int .i64) 3 wc w.heap.size (fun k_=>zx (sv Ao43 t234 co43) k_∧zx (sv Ao45 t237 co45) k_∧zx (sv Ao51 t242 co51) k_∧zx (sv Ao56 t245 co56) k_∧zx (sv Ao67 t252 co67) k_∧zx (sv Ao73 t256 co73) k_∧zx (sv Ao80 t259 co80) k_) (.slice Ao61 t249.length co61) t249)∧Aside0 (Kd.R (Kd.int .i64) 3 wc w.heap.size (fun k_=>zx (sv Ao43 t234 co43) k_∧zx (sv Ao45 t237 co45) k_∧zx (sv Ao51 t242 co51) k_∧zx (sv Ao56 t245 co56) k_∧zx (sv Ao61 t249 co61) k_∧zx (sv Ao73 t256 co73) k_∧zx (sv Ao80 t259 co80) k_) (.slice Ao67 t252.length co67) t252)∧Aside0 (Kd.R (Kd.int .i64) 3 wc w.heap.size (fun k_=>zx (sv Ao43 t234 co43) k_∧zx (sv Ao45 t237 co45) k_∧zx (sv Ao51 t242 co51) k_∧zx (sv Ao56 t245 co56) k_∧zx (sv Ao61 t249 co61) k_∧zx (sv Ao67 t252 co67) k_∧zx (sv Ao80 t259 co80) k_) (.slice Ao73 t256.length co73) t256)∧Aside0 (Kd.R (Kd.int .i64) 3 wc w.heap.size (fun k_=>zx (sv Ao43 t234 co43) k_∧zx (sv Ao45 t237 co45) k_∧zx (sv Ao51 t242 co51) k_∧zx (sv Ao56 t245 co56) k_∧zx (sv Ao61 t249 co61) k_∧zx (sv Ao67 t252 co67) k_∧zx (sv Ao73 t256 co73) k_) (.slice Ao80 t259.length co80) t259)∧Aside0 (wc.heap[gb218]? = some (.cells #[(.slice A0_0 l0_0.length c0_0),(.slice A0_1 l0_1.length c0_1)] 47 (0,0)))∧Aside0 (wc.heap[gb219]? = some (.cells #[(.slice A1_0 l1_0.length c1_0),(.slice A1_1 l1_1.length c1_1)] 47 (0,0)))∧Aside0 (wc.heap[gb241]? = some (.cells #[(.slice Ao43 t234.length co43),(.slice Ao45 t237.length co45)] 49 (0,0)))∧Aside0 (wc.heap[gb248]? = some (.cells #[(.slice Ao51 t242.length co51),(.slice Ao56 t245.length co56)] 49 (0,0)))∧Aside0 (wc.heap[gb255]? = some (.cells #[(.slice Ao61 t249.length co61),(.slice Ao67 t252.length co67)] 49 (0,0)))∧Aside0 (wc.heap[gb263]? = some (.cells #[(.slice Ao73 t256.length co73),(.slice Ao80 t259.length co80)] 49 (0,0)))∧Aside0 (Below w.heap.size w wc))
   case first =>
    have H:=HC25.out
    clear HC25
    replace H:=Option.bind_eq_some_iff.mp H
    obtain ⟨t264,A810,H⟩:=H
    replace H:(if t264 = true then (laws_FnExactCompose.j0 k t240 t262 (t262 != t240) l0_0 l0_1 l1_0 l1_1 t234 t237 t242 t245 t249 t252 t256 t259) else (laws_FnExactCompose.j0 k t240 t262 true l0_0 l0_1 l1_0 l1_1 t234 t237 t242 t245 t249 t252 t256 t259)) = some true:=H
    have A81:=Aside0.mk A810
    clear A810
    by_cases c82:t264 = true
    ·subst c82
     have H1:(laws_FnExactCompose.j0 k t240 t262 (t262 != t240) l0_0 l0_1 l1_0 l1_1 t234 t237 t242 t245 t249 t252 t256 t259) = some true:=by first|with_reducible rfl|(rw [if_pos rfl] at H;exact H)
     clear H
     have H:=H1
     clear H1
     have H':=Aside0.mk H
     clear H
     have hnb83:=NB263_218.out
     have hnc83:=NB218_263.out
     have hnb84:=NB263_219.out
     have hnc84:=NB219_263.out
     have hnb85:=NB263_241.out
     have hnc85:=NB241_263.out
     have hnb86:=NB263_248.out
     have hnc86:=NB248_263.out
     have hnb87:=NB263_255.out
     have hnc87:=NB255_263.out
     have hcz88_0:w72.cell? ⟨gb263,0,none⟩ = some (.slice none 0 0):=zcl BK263.out 0
     have hcz88_1:w72.cell? ⟨gb263,1,none⟩ = some (.slice none 0 0):=zcl BK263.out 1
     have hfz88_0:=blk_frozen BK263.out 0
     have hfz88_1:=blk_frozen BK263.out 1
     have hnb89:=NB241_218.out
     have hnc89:=NB218_241.out
     have hnb90:=NB241_219.out
     have hnc90:=NB219_241.out
     have hnb91:=NB241_248.out
     have hnc91:=NB248_241.out
     have hnb92:=NB241_255.out
     have hnc92:=NB255_241.out
     have hcz93_0:w72.cell? ⟨gb241,0,none⟩ = some (.slice Ao43 t234.length co43):=zcl BK241.out 0
     have hcz93_1:w72.cell? ⟨gb241,1,none⟩ = some (.slice Ao45 t237.length co45):=zcl BK241.out 1
     have hfz93_0:=blk_frozen BK241.out 0
     have hfz93_1:=blk_frozen BK241.out 1
     go_wp2_with (first|((with_reducible refine gate_callee (f:=27) rfl ?_);have zq0:=zf2 HO258.out BK263.out 0 (.slice Ao73 t256.length co73) 1 (.slice Ao80 t259.length co80);have zq1:=zf2 HO261.out BK263.out 0 (.slice Ao73 t256.length co73) 1 (.slice Ao80 t259.length co80);have zq2:=zf2 HO236.out BK263.out 0 (.slice Ao73 t256.length co73) 1 (.slice Ao80 t259.length co80);have zq3:=zf2 HO239.out BK263.out 0 (.slice Ao73 t256.length co73) 1 (.slice Ao80 t259.length co80);refine zg (some 47) Try.func27 #[.agg #[.slice Ao73 t256.length co73,.slice Ao80 t259.length co80],.agg #[.slice Ao43 t234.length co43,.slice Ao45 t237.length co45]] ?_;(with_reducible refine (laws_eqSubstitution.calls k _ _ t256 _ _ t259 _ _ t234 _ _ t237 true _ ?side1 ?side2 ?side3 ?side4 ?side5 ?side6 ?side7 ?side8 A81.out).mono ?_);(case side1=>refine (Kd.R_reads' (e:=3) (base:=w.heap.size) (ok:=fun k_=>((((((((((zx (sv Ao80 t259 co80) k_∧zx v223 k_)∧zx v226 k_)∧zx v229 k_)∧zx v232 k_)∧zx (sv Ao43 t234 co43) k_)∧zx (sv Ao45 t237 co45) k_)∧zx (sv Ao51 t242 co51) k_)∧zx (sv Ao56 t245 co56) k_)∧zx (sv Ao61 t249 co61) k_)∧zx (sv Ao67 t252 co67) k_)) (n:=t256.length) (c:=co73) ?_).2.2;exact (zr zq0));(case side2=>exact (Kd.R_reads' HO258.out).2.1);(case side3=>refine (Kd.R_reads' (e:=3) (base:=w.heap.size) (ok:=fun k_=>((((((((((zx (sv Ao73 t256 co73) k_∧zx v223 k_)∧zx v226 k_)∧zx v229 k_)∧zx v232 k_)∧zx (sv Ao43 t234 co43) k_)∧zx (sv Ao45 t237 co45) k_)∧zx (sv Ao51 t242 co51) k_)∧zx (sv Ao56 t245 co56) k_)∧zx (sv Ao61 t249 co61) k_)∧zx (sv Ao67 t252 co67) k_)) (n:=t259.length) (c:=co80) ?_).2.2;exact (zr zq1));(case side4=>exact (Kd.R_reads' HO261.out).2.1);(case side5=>refine (Kd.R_reads' (e:=3) (base:=w.heap.size) (ok:=fun k_=>(((zx v223 k_∧(zx v226 k_∧(zx v229 k_∧(zx v232 k_∧(zx (sv Ao45 t237 co45) k_∧(zx (sv Ao51 t242 co51) k_∧(zx (sv Ao56 t245 co56) k_∧(zx (sv Ao61 t249 co61) k_∧zx (sv Ao67 t252 co67) k_))))))))∧zx (sv Ao73 t256 co73) k_)∧zx (sv Ao80 t259 co80) k_)) (n:=t234.length) (c:=co43) ?_).2.2;exact (zr zq2));(case side6=>exact (Kd.R_reads' HO236.out).2.1);(case side7=>refine (Kd.R_reads' (e:=3) (base:=w.heap.size) (ok:=fun k_=>(((zx v223 k_∧(zx v226 k_∧(zx v229 k_∧(zx v232 k_∧(zx (sv Ao43 t234 co43) k_∧(zx (sv Ao51 t242 co51) k_∧(zx (sv Ao56 t245 co56) k_∧(zx (sv Ao61 t249 co61) k_∧zx (sv Ao67 t252 co67) k_))))))))∧zx (sv Ao73 t256 co73) k_)∧zx (sv Ao80 t259 co80) k_)) (n:=t237.length) (c:=co45) ?_).2.2;exact (zr zq3));(case side8=>exact (Kd.R_reads' HO239.out).2.1);rintro e w94 ⟨rfl,hb⟩;refine ⟨_,rfl,?_⟩;replace HO224:=zm (Kd.R_below (zr (zf2 HO224.out BK263.out 0 (.slice Ao73 t256.length co73) 1 (.slice Ao80 t259.length co80))) hb);replace HO227:=zm (Kd.R_below (zr (zf2 HO227.out BK263.out 0 (.slice Ao73 t256.length co73) 1 (.slice Ao80 t259.length co80))) hb);replace HO230:=zm (Kd.R_below (zr (zf2 HO230.out BK263.out 0 (.slice Ao73 t256.length co73) 1 (.slice Ao80 t259.length co80))) hb);replace HO233:=zm (Kd.R_below (zr (zf2 HO233.out BK263.out 0 (.slice Ao73 t256.length co73) 1 (.slice Ao80 t259.length co80))) hb);replace HO236:=zm (Kd.R_below (zr zq2) hb);replace HO239:=zm (Kd.R_below (zr zq3) hb);replace HO244:=zm (Kd.R_below (zr (zf2 HO244.out BK263.out 0 (.slice Ao73 t256.length co73) 1 (.slice Ao80 t259.length co80))) hb);replace HO247:=zm (Kd.R_below (zr (zf2 HO247.out BK263.out 0 (.slice Ao73 t256.length co73) 1 (.slice Ao80 t259.length co80))) hb);replace HO251:=zm (Kd.R_below (zr (zf2 HO251.out BK263.out 0 (.slice Ao73 t256.length co73) 1 (.slice Ao80 t259.length co80))) hb);replace HO254:=zm (Kd.R_below (zr (zf2 HO254.out BK263.out 0 (.slice Ao73 t256.length co73) 1 (.slice Ao80 t259.length co80))) hb);replace HO258:=zm (Kd.R_below (zr zq0) hb);replace HO261:=zm (Kd.R_below (zr zq1) hb);replace BK218:=zm (blk_below (g:=gb218) (o:=.cells #[.slice A0_0 l0_0.length c0_0,.slice A0_1 l0_1.length c0_1] 47 (0,0)) zbz hb);replace BK219:=zm (blk_below (g:=gb219) (o:=.cells #[.slice A1_0 l1_0.length c1_0,.slice A1_1 l1_1.length c1_1] 47 (0,0)) zbz hb);replace BK241:=zm (blk_below (g:=gb241) (o:=.cells #[.slice Ao43 t234.length co43,.slice Ao45 t237.length co45] 49 (0,0)) zbz hb);replace BK248:=zm (blk_below (g:=gb248) (o:=.cells #[.slice Ao51 t242.length co51,.slice Ao56 t245.length co56] 49 (0,0)) zbz hb);replace BK255:=zm (blk_below (g:=gb255) (o:=.cells #[.slice Ao61 t249.length co61,.slice Ao67 t252.length co67] 49 (0,0)) zbz hb);replace BK263:=zm (blk_below (g:=gb263) (o:=.cells #[.slice Ao73 t256.length co73,.slice Ao80 t259.length co80] 49 (0,0)) (by (with_reducible repeat (first|refine blk_drewN ?_ _|refine blk_drew ?_|refine blk_alloc ?_ _));refine blk_put (cs:=#[.slice Ao73 t256.length co73,.slice none 0 0]) ?_ 1 _ rfl;(with_reducible repeat (first|refine blk_drewN ?_ _|refine blk_drew ?_|refine blk_alloc ?_ _));refine blk_put (cs:=#[.slice none 0 0,.slice none 0 0]) ?_ 0 _ rfl;(with_reducible repeat (first|refine blk_drewN ?_ _|refine blk_drew ?_|refine blk_alloc ?_ _));exact BK263.out) hb);replace HB:=zm (below_step zl hb);(try clear hb)))
     go_meet
     case rel=>exact ⟨_,((t262 != t240)),(by first|rfl|(simp;done)|(simp [*];done)),H',⟨by first|omega|exact Nat.le_refl _⟩,⟨zr (Kd.R_mono HO236.out (fun _ hk=>⟨hk.1.1.2.2.2.2.1,hk.1.1.2.2.2.2.2.1,hk.1.1.2.2.2.2.2.2.1,hk.1.1.2.2.2.2.2.2.2.1,hk.1.1.2.2.2.2.2.2.2.2,hk.1.2,hk.2⟩))⟩,⟨zr (Kd.R_mono HO239.out (fun _ hk=>⟨hk.1.1.2.2.2.2.1,hk.1.1.2.2.2.2.2.1,hk.1.1.2.2.2.2.2.2.1,hk.1.1.2.2.2.2.2.2.2.1,hk.1.1.2.2.2.2.2.2.2.2,hk.1.2,hk.2⟩))⟩,⟨zr (Kd.R_mono HO244.out (fun _ hk=>⟨hk.1.1.2.2.2.2.1,hk.1.1.2.2.2.2.2.1,hk.1.1.2.2.2.2.2.2.1,hk.1.1.2.2.2.2.2.2.2.1,hk.1.1.2.2.2.2.2.2.2.2,hk.1.2,hk.2⟩))⟩,⟨zr (Kd.R_mono HO247.out (fun _ hk=>⟨hk.1.1.2.2.2.2.1,hk.1.1.2.2.2.2.2.1,hk.1.1.2.2.2.2.2.2.1,hk.1.1.2.2.2.2.2.2.2.1,hk.1.1.2.2.2.2.2.2.2.2,hk.1.2,hk.2⟩))⟩,⟨zr (Kd.R_mono HO251.out (fun _ hk=>⟨hk.1.1.2.2.2.2.1,hk.1.1.2.2.2.2.2.1,hk.1.1.2.2.2.2.2.2.1,hk.1.1.2.2.2.2.2.2.2.1,hk.1.1.2.2.2.2.2.2.2.2,hk.1.2,hk.2⟩))⟩,⟨zr (Kd.R_mono HO254.out (fun _ hk=>⟨hk.1.1.2.2.2.2.1,hk.1.1.2.2.2.2.2.1,hk.1.1.2.2.2.2.2.2.1,hk.1.1.2.2.2.2.2.2.2.1,hk.1.1.2.2.2.2.2.2.2.2,hk.1.2,hk.2⟩))⟩,⟨zr (Kd.R_mono HO258.out (fun _ hk=>⟨hk.1.1.1.1.1.2,hk.1.1.1.1.2,hk.1.1.1.2,hk.1.1.2,hk.1.2,hk.2,hk.1.1.1.1.1.1.1.1.1.1⟩))⟩,⟨zr (Kd.R_mono HO261.out (fun _ hk=>⟨hk.1.1.1.1.1.2,hk.1.1.1.1.2,hk.1.1.1.2,hk.1.1.2,hk.1.2,hk.2,hk.1.1.1.1.1.1.1.1.1.1⟩))⟩,⟨zb BK218.out⟩,⟨zb BK219.out⟩,⟨zb BK241.out⟩,⟨zb BK248.out⟩,⟨zb BK255.out⟩,⟨zb BK263.out⟩,⟨zl⟩⟩
    ·replace c82:=Bool.eq_false_iff.mpr c82
     subst c82
     have H1:(laws_FnExactCompose.j0 k t240 t262 true l0_0 l0_1 l1_0 l1_1 t234 t237 t242 t245 t249 t252 t256 t259) = some true:=by first|with_reducible rfl|(rw [if_neg (show ¬ (false = true) by decide)] at H;exact H)
     clear H
     have H:=H1
     clear H1
     have H':=Aside0.mk H
     clear H
     have hnb95:=NB263_218.out
     have hnc95:=NB218_263.out
     have hnb96:=NB263_219.out
     have hnc96:=NB219_263.out
     have hnb97:=NB263_241.out
     have hnc97:=NB241_263.out
     have hnb98:=NB263_248.out
     have hnc98:=NB248_263.out
     have hnb99:=NB263_255.out
     have hnc99:=NB255_263.out
     have hcz100_0:w72.cell? ⟨gb263,0,none⟩ = some (.slice none 0 0):=zcl BK263.out 0
     have hcz100_1:w72.cell? ⟨gb263,1,none⟩ = some (.slice none 0 0):=zcl BK263.out 1
     have hfz100_0:=blk_frozen BK263.out 0
     have hfz100_1:=blk_frozen BK263.out 1
     have hnb101:=NB241_218.out
     have hnc101:=NB218_241.out
     have hnb102:=NB241_219.out
     have hnc102:=NB219_241.out
     have hnb103:=NB241_248.out
     have hnc103:=NB248_241.out
     have hnb104:=NB241_255.out
     have hnc104:=NB255_241.out
     have hcz105_0:w72.cell? ⟨gb241,0,none⟩ = some (.slice Ao43 t234.length co43):=zcl BK241.out 0
     have hcz105_1:w72.cell? ⟨gb241,1,none⟩ = some (.slice Ao45 t237.length co45):=zcl BK241.out 1
     have hfz105_0:=blk_frozen BK241.out 0
     have hfz105_1:=blk_frozen BK241.out 1
     go_wp2_with (first|((with_reducible refine gate_callee (f:=27) rfl ?_);have zq0:=zf2 HO258.out BK263.out 0 (.slice Ao73 t256.length co73) 1 (.slice Ao80 t259.length co80);have zq1:=zf2 HO261.out BK263.out 0 (.slice Ao73 t256.length co73) 1 (.slice Ao80 t259.length co80);have zq2:=zf2 HO236.out BK263.out 0 (.slice Ao73 t256.length co73) 1 (.slice Ao80 t259.length co80);have zq3:=zf2 HO239.out BK263.out 0 (.slice Ao73 t256.length co73) 1 (.slice Ao80 t259.length co80);refine zg (some 47) Try.func27 #[.agg #[.slice Ao73 t256.length co73,.slice Ao80 t259.length co80],.agg #[.slice Ao43 t234.length co43,.slice Ao45 t237.length co45]] ?_;(with_reducible refine (laws_eqSubstitution.calls k _ _ t256 _ _ t259 _ _ t234 _ _ t237 false _ ?side1 ?side2 ?side3 ?side4 ?side5 ?side6 ?side7 ?side8 A81.out).mono ?_);(case side1=>refine (Kd.R_reads' (e:=3) (base:=w.heap.size) (ok:=fun k_=>((((((((((zx (sv Ao80 t259 co80) k_∧zx v223 k_)∧zx v226 k_)∧zx v229 k_)∧zx v232 k_)∧zx (sv Ao43 t234 co43) k_)∧zx (sv Ao45 t237 co45) k_)∧zx (sv Ao51 t242 co51) k_)∧zx (sv Ao56 t245 co56) k_)∧zx (sv Ao61 t249 co61) k_)∧zx (sv Ao67 t252 co67) k_)) (n:=t256.length) (c:=co73) ?_).2.2;exact (zr zq0));(case side2=>exact (Kd.R_reads' HO258.out).2.1);(case side3=>refine (Kd.R_reads' (e:=3) (base:=w.heap.size) (ok:=fun k_=>((((((((((zx (sv Ao73 t256 co73) k_∧zx v223 k_)∧zx v226 k_)∧zx v229 k_)∧zx v232 k_)∧zx (sv Ao43 t234 co43) k_)∧zx (sv Ao45 t237 co45) k_)∧zx (sv Ao51 t242 co51) k_)∧zx (sv Ao56 t245 co56) k_)∧zx (sv Ao61 t249 co61) k_)∧zx (sv Ao67 t252 co67) k_)) (n:=t259.length) (c:=co80) ?_).2.2;exact (zr zq1));(case side4=>exact (Kd.R_reads' HO261.out).2.1);(case side5=>refine (Kd.R_reads' (e:=3) (base:=w.heap.size) (ok:=fun k_=>(((zx v223 k_∧(zx v226 k_∧(zx v229 k_∧(zx v232 k_∧(zx (sv Ao45 t237 co45) k_∧(zx (sv Ao51 t242 co51) k_∧(zx (sv Ao56 t245 co56) k_∧(zx (sv Ao61 t249 co61) k_∧zx (sv Ao67 t252 co67) k_))))))))∧zx (sv Ao73 t256 co73) k_)∧zx (sv Ao80 t259 co80) k_)) (n:=t234.length) (c:=co43) ?_).2.2;exact (zr zq2));(case side6=>exact (Kd.R_reads' HO236.out).2.1);(case side7=>refine (Kd.R_reads' (e:=3) (base:=w.heap.size) (ok:=fun k_=>(((zx v223 k_∧(zx v226 k_∧(zx v229 k_∧(zx v232 k_∧(zx (sv Ao43 t234 co43) k_∧(zx (sv Ao51 t242 co51) k_∧(zx (sv Ao56 t245 co56) k_∧(zx (sv Ao61 t249 co61) k_∧zx (sv Ao67 t252 co67) k_))))))))∧zx (sv Ao73 t256 co73) k_)∧zx (sv Ao80 t259 co80) k_)) (n:=t237.length) (c:=co45) ?_).2.2;exact (zr zq3));(case side8=>exact (Kd.R_reads' HO239.out).2.1);rintro e w106 ⟨rfl,hb⟩;refine ⟨_,rfl,?_⟩;replace HO224:=zm (Kd.R_below (zr (zf2 HO224.out BK263.out 0 (.slice Ao73 t256.length co73) 1 (.slice Ao80 t259.length co80))) hb);replace HO227:=zm (Kd.R_below (zr (zf2 HO227.out BK263.out 0 (.slice Ao73 t256.length co73) 1 (.slice Ao80 t259.length co80))) hb);replace HO230:=zm (Kd.R_below (zr (zf2 HO230.out BK263.out 0 (.slice Ao73 t256.length co73) 1 (.slice Ao80 t259.length co80))) hb);replace HO233:=zm (Kd.R_below (zr (zf2 HO233.out BK263.out 0 (.slice Ao73 t256.length co73) 1 (.slice Ao80 t259.length co80))) hb);replace HO236:=zm (Kd.R_below (zr zq2) hb);replace HO239:=zm (Kd.R_below (zr zq3) hb);replace HO244:=zm (Kd.R_below (zr (zf2 HO244.out BK263.out 0 (.slice Ao73 t256.length co73) 1 (.slice Ao80 t259.length co80))) hb);replace HO247:=zm (Kd.R_below (zr (zf2 HO247.out BK263.out 0 (.slice Ao73 t256.length co73) 1 (.slice Ao80 t259.length co80))) hb);replace HO251:=zm (Kd.R_below (zr (zf2 HO251.out BK263.out 0 (.slice Ao73 t256.length co73) 1 (.slice Ao80 t259.length co80))) hb);replace HO254:=zm (Kd.R_below (zr (zf2 HO254.out BK263.out 0 (.slice Ao73 t256.length co73) 1 (.slice Ao80 t259.length co80))) hb);replace HO258:=zm (Kd.R_below (zr zq0) hb);replace HO261:=zm (Kd.R_below (zr zq1) hb);replace BK218:=zm (blk_below (g:=gb218) (o:=.cells #[.slice A0_0 l0_0.length c0_0,.slice A0_1 l0_1.length c0_1] 47 (0,0)) zbz hb);replace BK219:=zm (blk_below (g:=gb219) (o:=.cells #[.slice A1_0 l1_0.length c1_0,.slice A1_1 l1_1.length c1_1] 47 (0,0)) zbz hb);replace BK241:=zm (blk_below (g:=gb241) (o:=.cells #[.slice Ao43 t234.length co43,.slice Ao45 t237.length co45] 49 (0,0)) zbz hb);replace BK248:=zm (blk_below (g:=gb248) (o:=.cells #[.slice Ao51 t242.length co51,.slice Ao56 t245.length co56] 49 (0,0)) zbz hb);replace BK255:=zm (blk_below (g:=gb255) (o:=.cells #[.slice Ao61 t249.length co61,.slice Ao67 t252.length co67] 49 (0,0)) zbz hb);replace BK263:=zm (blk_below (g:=gb263) (o:=.cells #[.slice Ao73 t256.length co73,.slice Ao80 t259.length co80] 49 (0,0)) (by (with_reducible repeat (first|refine blk_drewN ?_ _|refine blk_drew ?_|refine blk_alloc ?_ _));refine blk_put (cs:=#[.slice Ao73 t256.length co73,.slice none 0 0]) ?_ 1 _ rfl;(with_reducible repeat (first|refine blk_drewN ?_ _|refine blk_drew ?_|refine blk_alloc ?_ _));refine blk_put (cs:=#[.slice none 0 0,.slice none 0 0]) ?_ 0 _ rfl;(with_reducible repeat (first|refine blk_drewN ?_ _|refine blk_drew ?_|refine blk_alloc ?_ _));exact BK263.out) hb);replace HB:=zm (below_step zl hb);(try clear hb)))
     go_meet
     case rel=>exact ⟨_,(true),(by first|rfl|(simp;done)|(simp [*];done)),H',⟨by first|omega|exact Nat.le_refl _⟩,⟨zr (Kd.R_mono HO236.out (fun _ hk=>⟨hk.1.1.2.2.2.2.1,hk.1.1.2.2.2.2.2.1,hk.1.1.2.2.2.2.2.2.1,hk.1.1.2.2.2.2.2.2.2.1,hk.1.1.2.2.2.2.2.2.2.2,hk.1.2,hk.2⟩))⟩,⟨zr (Kd.R_mono HO239.out (fun _ hk=>⟨hk.1.1.2.2.2.2.1,hk.1.1.2.2.2.2.2.1,hk.1.1.2.2.2.2.2.2.1,hk.1.1.2.2.2.2.2.2.2.1,hk.1.1.2.2.2.2.2.2.2.2,hk.1.2,hk.2⟩))⟩,⟨zr (Kd.R_mono HO244.out (fun _ hk=>⟨hk.1.1.2.2.2.2.1,hk.1.1.2.2.2.2.2.1,hk.1.1.2.2.2.2.2.2.1,hk.1.1.2.2.2.2.2.2.2.1,hk.1.1.2.2.2.2.2.2.2.2,hk.1.2,hk.2⟩))⟩,⟨zr (Kd.R_mono HO247.out (fun _ hk=>⟨hk.1.1.2.2.2.2.1,hk.1.1.2.2.2.2.2.1,hk.1.1.2.2.2.2.2.2.1,hk.1.1.2.2.2.2.2.2.2.1,hk.1.1.2.2.2.2.2.2.2.2,hk.1.2,hk.2⟩))⟩,⟨zr (Kd.R_mono HO251.out (fun _ hk=>⟨hk.1.1.2.2.2.2.1,hk.1.1.2.2.2.2.2.1,hk.1.1.2.2.2.2.2.2.1,hk.1.1.2.2.2.2.2.2.2.1,hk.1.1.2.2.2.2.2.2.2.2,hk.1.2,hk.2⟩))⟩,⟨zr (Kd.R_mono HO254.out (fun _ hk=>⟨hk.1.1.2.2.2.2.1,hk.1.1.2.2.2.2.2.1,hk.1.1.2.2.2.2.2.2.1,hk.1.1.2.2.2.2.2.2.2.1,hk.1.1.2.2.2.2.2.2.2.2,hk.1.2,hk.2⟩))⟩,⟨zr (Kd.R_mono HO258.out (fun _ hk=>⟨hk.1.1.1.1.1.2,hk.1.1.1.1.2,hk.1.1.1.2,hk.1.1.2,hk.1.2,hk.2,hk.1.1.1.1.1.1.1.1.1.1⟩))⟩,⟨zr (Kd.R_mono HO261.out (fun _ hk=>⟨hk.1.1.1.1.1.2,hk.1.1.1.1.2,hk.1.1.1.2,hk.1.1.2,hk.1.2,hk.2,hk.1.1.1.1.1.1.1.1.1.1⟩))⟩,⟨zb BK218.out⟩,⟨zb BK219.out⟩,⟨zb BK241.out⟩,⟨zb BK248.out⟩,⟨zb BK255.out⟩,⟨zb BK263.out⟩,⟨zl⟩⟩
   case rest =>
    clear HC25
    obtain ⟨kq,x53_24,rfl,HA,HJ24,HO_242000,HO_242001,HO_249000,HO_249001,HO_256000,HO_256001,HO_264000,HO_264001,BK218,BK219,BK241,BK248,BK255,BK263,HB⟩:=hcut
    cases kq with
    | zero => exact absurd HA.out (by simp [laws_FnExactCompose.j0])
    | succ kj24 =>
     have H:=HA.out
     clear HA
     simp only [laws_FnExactCompose.j0] at H
     by_cases c107:x53_24 = true
     ·subst c107
      have H1:(some false) = some true:=by first|with_reducible rfl|(rw [if_pos rfl] at H;exact H)
      clear H
      have H:=H1
      clear H1
      exact absurd H (by simp)
     ·replace c107:=Bool.eq_false_iff.mpr c107
      subst c107
      have H1:((laws_toSubstitution.f kj24 l0_0 l0_1).bind fun bt265=>((laws_eqSubstitution.f kj24 t242 t245 bt265.1 bt265.2).bind fun t271=>(if t271 = true then ((laws_toSubstitution.f kj24 l1_0 l1_1).bind fun bt272=>((laws_eqSubstitution.f kj24 t249 t252 bt272.1 bt272.2).bind fun t278=>(if t278 = true then ((laws_markSubstitution.f kj24 t242 t245 1).bind fun bt279=>((laws_markSubstitution.f kj24 t249 t252 bt279.1).bind fun bt282=>(if bt282.1 < 0 then (laws_FnExactCompose.j1 kj24 t240 true l0_0 l0_1 l1_0 l1_1 t234 t237 t256 t259) else ((laws_eqSubstitution.f kj24 t256 t259 t234 t237).bind fun t285=>(if t285 = true then (laws_FnExactCompose.j1 kj24 t240 (t262 != t240) l0_0 l0_1 l1_0 l1_1 t234 t237 t256 t259) else (laws_FnExactCompose.j1 kj24 t240 true l0_0 l0_1 l1_0 l1_1 t234 t237 t256 t259)))))) else (some false)))) else (some false)))) = some true:=by first|with_reducible rfl|(rw [if_neg (show ¬ (false = true) by decide)] at H;exact H)
      clear H
      have H:=H1
      clear H1
      replace H:=Option.bind_eq_some_iff.mp H
      obtain ⟨⟨t265,t268⟩,A1080,H⟩:=H
      try dsimp only at H
      have A108:=Aside0.mk A1080
      clear A1080
      replace H:=Option.bind_eq_some_iff.mp H
      obtain ⟨t271,A1090,H⟩:=H
      try dsimp only at H
      have A109:=Aside0.mk A1090
      clear A1090
      by_cases c110:t271 = true
      ·subst c110
       have H1:((laws_toSubstitution.f kj24 l1_0 l1_1).bind fun bt272=>((laws_eqSubstitution.f kj24 t249 t252 bt272.1 bt272.2).bind fun t278=>(if t278 = true then ((laws_markSubstitution.f kj24 t242 t245 1).bind fun bt279=>((laws_markSubstitution.f kj24 t249 t252 bt279.1).bind fun bt282=>(if bt282.1 < 0 then (laws_FnExactCompose.j1 kj24 t240 true l0_0 l0_1 l1_0 l1_1 t234 t237 t256 t259) else ((laws_eqSubstitution.f kj24 t256 t259 t234 t237).bind fun t285=>(if t285 = true then (laws_FnExactCompose.j1 kj24 t240 (t262 != t240) l0_0 l0_1 l1_0 l1_1 t234 t237 t256 t259) else (laws_FnExactCompose.j1 kj24 t240 true l0_0 l0_1 l1_0 l1_1 t234 t237 t256 t259)))))) else (some false)))) = some true:=by first|with_reducible rfl|(rw [if_pos rfl] at H;exact H)
       clear H
       have H:=H1
       clear H1
       replace H:=Option.bind_eq_some_iff.mp H
       obtain ⟨⟨t272,t275⟩,A1110,H⟩:=H
       try dsimp only at H
       have A111:=Aside0.mk A1110
       clear A1110
       replace H:=Option.bind_eq_some_iff.mp H
       obtain ⟨t278,A1120,H⟩:=H
       try dsimp only at H
       have A112:=Aside0.mk A1120
       clear A1120
       by_cases c113:t278 = true
       ·subst c113
        have H1:((laws_markSubstitution.f kj24 t242 t245 1).bind fun bt279=>((laws_markSubstitution.f kj24 t249 t252 bt279.1).bind fun bt282=>(if bt282.1 < 0 then (laws_FnExactCompose.j1 kj24 t240 true l0_0 l0_1 l1_0 l1_1 t234 t237 t256 t259) else ((laws_eqSubstitution.f kj24 t256 t259 t234 t237).bind fun t285=>(if t285 = true then (laws_FnExactCompose.j1 kj24 t240 (t262 != t240) l0_0 l0_1 l1_0 l1_1 t234 t237 t256 t259) else (laws_FnExactCompose.j1 kj24 t240 true l0_0 l0_1 l1_0 l1_1 t234 t237 t256 t259)))))) = some true:=by first|with_reducible rfl|(rw [if_pos rfl] at H;exact H)
        clear H
        have H:=H1
        clear H1
        replace H:=Option.bind_eq_some_iff.mp H
        obtain ⟨⟨t279,t280,t281⟩,A1140,H⟩:=H
        try dsimp only at H
        have A114:=Aside0.mk A1140
        clear A1140
        replace H:=Option.bind_eq_some_iff.mp H
        obtain ⟨⟨t282,t283,t284⟩,A1150,H⟩:=H
        replace H:(if t282 < 0 then (laws_FnExactCompose.j1 kj24 t240 true l0_0 l0_1 l1_0 l1_1 t234 t237 t256 t259) else ((laws_eqSubstitution.f kj24 t256 t259 t234 t237).bind fun t285=>(if t285 = true then (laws_FnExactCompose.j1 kj24 t240 (t262 != t240) l0_0 l0_1 l1_0 l1_1 t234 t237 t256 t259) else (laws_FnExactCompose.j1 kj24 t240 true l0_0 l0_1 l1_0 l1_1 t234 t237 t256 t259)))) = some true:=H
        have A115:=Aside0.mk A1150
        clear A1150
        have HC116:=Aside0.mk H
        clear H
        try go_wp2
        replace HO_242000:=zm (Kd.R_drew HO_242000.out)
        replace HO_242001:=zm (Kd.R_drew HO_242001.out)
        replace HO_249000:=zm (Kd.R_drew HO_249000.out)
        replace HO_249001:=zm (Kd.R_drew HO_249001.out)
        replace HO_256000:=zm (Kd.R_drew HO_256000.out)
        replace HO_256001:=zm (Kd.R_drew HO_256001.out)
        replace HO_264000:=zm (Kd.R_drew HO_264000.out)
        replace HO_264001:=zm (Kd.R_drew HO_264001.out)
        replace BK218:=zm (blk_drew BK218.out)
        replace BK219:=zm (blk_drew BK219.out)
        replace BK241:=zm (blk_drew BK241.out)
        replace BK248:=zm (blk_drew BK248.out)
        replace BK255:=zm (blk_drew BK255.out)
        replace BK263:=zm (blk_drew BK263.out)
        replace HB:=zm (below_drew1 HB.out)
        refine start_ (n:=5) (S:=fun w'=>w'.cell? ⟨gb248,0,none⟩ = some (.slice Ao51 t242.length co51)∧w'.cell? ⟨gb248,1,none⟩ = some (.slice Ao56 t245.length co56)∧w'.cell? ⟨gb218,0,none⟩ = some (.slice A0_0 l0_0.length c0_0)∧w'.cell? ⟨gb218,1,none⟩ = some (.slice A0_1 l0_1.length c0_1)) (ds:=[]) #[false,false,false,false,false] (by kernel_rfl) rfl rfl ⟨zcl BK248.out 0,zcl BK248.out 1,zcl BK218.out 0,zcl BK218.out 1⟩ (fun hHeld=>?_)
        generalize wc.drew = w117 at HO_242000 HO_242001 HO_249000 HO_249001 HO_256000 HO_256001 HO_264000 HO_264001 BK218 BK219 BK241 BK248 BK255 BK263 HB hHeld ⊢
        refine take_ (i:=0) (N:=some 54) (v:=?_) (a':=?_) #[true,false,false,false,false] rfl rfl (by kernel_rfl) (fun _ _ _ h=>h) (Or.inl ⟨by rfl,?_⟩) hHeld ?_ ?_
        rotate_left
        ·rintro w' ⟨s0,s1,s2,s3⟩
         go_simp
         with_reducible rfl
        rotate_left
        ·simp only [Act.put,List.setIfInBounds_toArray,List.set_cons_zero,List.set_cons_succ,i64_w,i32_w]
         rfl
        refine take_ (i:=1) (N:=some 55) (v:=?_) (a':=?_) #[true,true,false,false,false] rfl rfl (by kernel_rfl) (fun _ _ _ h=>h) (Or.inl ⟨by rfl,?_⟩) hHeld ?_ ?_
        rotate_left
        ·rintro w' ⟨s0,s1,s2,s3⟩
         go_simp
         with_reducible rfl
        rotate_left
        ·simp only [Act.put,List.setIfInBounds_toArray,List.set_cons_zero,List.set_cons_succ,i64_w,i32_w]
         rfl
        refine one_ (i:=2) (N:=some 56) #[true,true,true,false,false] rfl rfl (by kernel_rfl) (by decide) (fun K hK=>?_)
        refine goes_ Try.func25 (by kernel_rfl) rfl #[.agg #[.slice A0_0 l0_0.length c0_0,.slice A0_1 l0_1.length c0_1]] (by rfl) rfl rfl (by (try simp only [List.map_toArray,List.map_cons,List.map_nil]);first|done|rfl|(simp only [List.length_drop,List.length_take];rfl)) ?_
        with_reducible refine (laws_toSubstitution.calls kj24 _ _ l0_0 _ _ l0_1 t265 t268 _ ?side1 ?side2 ?side3 ?side4 A108.out).mono ?_
        (case side1=>exact zc HR0_0.out)
        (case side2=>exact HC0_0.out)
        (case side3=>exact zc HR0_1.out)
        (case side4=>exact HC0_1.out)
        rintro e w118 ⟨v266,v269,rfl,ho0,ho1,hb⟩
        refine ⟨_,rfl,?_⟩
        have HO267:=zm (Kd.R_lower (zn (zn (zn (zn (zn (zn (zn (zn ho0 (zr HO_242000.out)) (zr HO_242001.out)) (zr HO_249000.out)) (zr HO_249001.out)) (zr HO_256000.out)) (zr HO_256001.out)) (zr HO_264000.out)) (zr HO_264001.out)) (below_size zl))
        have HO270:=zm (Kd.R_lower (zn (zn (zn (zn (zn (zn (zn (zn ho1 (zr HO_242000.out)) (zr HO_242001.out)) (zr HO_249000.out)) (zr HO_249001.out)) (zr HO_256000.out)) (zr HO_256001.out)) (zr HO_264000.out)) (zr HO_264001.out)) (below_size zl))
        replace HO_242000:=(zO2 HO_242000 hb ho0 ho1)
        replace HO_242001:=(zO2 HO_242001 hb ho0 ho1)
        replace HO_249000:=(zO2 HO_249000 hb ho0 ho1)
        replace HO_249001:=(zO2 HO_249001 hb ho0 ho1)
        replace HO_256000:=(zO2 HO_256000 hb ho0 ho1)
        replace HO_256001:=(zO2 HO_256001 hb ho0 ho1)
        replace HO_264000:=(zO2 HO_264000 hb ho0 ho1)
        replace HO_264001:=(zO2 HO_264001 hb ho0 ho1)
        replace BK218:=zbk BK218 hb
        replace BK219:=zbk BK219 hb
        replace BK241:=zbk BK241 hb
        replace BK248:=zbk BK248 hb
        replace BK255:=zbk BK255 hb
        replace BK263:=zbk BK263 hb
        replace HB:=zm (below_step zl hb)
        (try clear hb ho0 ho1)
        obtain ⟨Ao119,co119,eo119⟩:=Kd.R_slice HO267.out
        (first|subst eo119|(injection eo119 with f1_ f2_ f3_;obtain rfl:=f1_.symm;obtain rfl:=f3_.symm))
        obtain ⟨Ao120,co120,eo120⟩:=Kd.R_slice HO270.out
        (first|subst eo120|(injection eo120 with f1_ f2_ f3_;obtain rfl:=f1_.symm;obtain rfl:=f3_.symm))
        refine hK.out _ _ ⟨zcl BK248.out 0,zcl BK248.out 1,zcl BK218.out 0,zcl BK218.out 1⟩ (fun hHeld=>?_)
        clear hK K
        refine zO (some 56) ?_
        refine one_ (i:=3) (N:=some 57) #[true,true,true,true,false] rfl rfl (by kernel_rfl) (by decide) (fun K hK=>?_)
        refine goes_ Try.func27 (by kernel_rfl) rfl #[.agg #[.slice Ao51 t242.length co51,.slice Ao56 t245.length co56],.agg #[.slice Ao119 t265.length co119,.slice Ao120 t268.length co120]] (by rfl) rfl rfl (by (try simp only [List.map_toArray,List.map_cons,List.map_nil]);first|done|rfl|(simp only [List.length_drop,List.length_take];rfl)) ?_
        with_reducible refine (laws_eqSubstitution.calls kj24 _ _ t242 _ _ t245 _ _ t265 _ _ t268 true _ ?side1 ?side2 ?side3 ?side4 ?side5 ?side6 ?side7 ?side8 A109.out).mono ?_
        (case side1=>exact zk HO_249000.out)
        (case side2=>exact (Kd.R_reads' HO_249000.out).2.1)
        (case side3=>exact zk HO_249001.out)
        (case side4=>exact (Kd.R_reads' HO_249001.out).2.1)
        (case side5=>exact zk HO267.out)
        (case side6=>exact (Kd.R_reads' HO267.out).2.1)
        (case side7=>exact zk HO270.out)
        (case side8=>exact (Kd.R_reads' HO270.out).2.1)
        rintro e w121 ⟨rfl,hb⟩
        refine ⟨_,rfl,?_⟩
        replace HO_242000:=zRb HO_242000 hb
        replace HO_242001:=zRb HO_242001 hb
        replace HO_249000:=zRb HO_249000 hb
        replace HO_249001:=zRb HO_249001 hb
        replace HO_256000:=zRb HO_256000 hb
        replace HO_256001:=zRb HO_256001 hb
        replace HO_264000:=zRb HO_264000 hb
        replace HO_264001:=zRb HO_264001 hb
        replace HO267:=zRb HO267 hb
        replace HO270:=zRb HO270 hb
        replace BK218:=zbk BK218 hb
        replace BK219:=zbk BK219 hb
        replace BK241:=zbk BK241 hb
        replace BK248:=zbk BK248 hb
        replace BK255:=zbk BK255 hb
        replace BK263:=zbk BK263 hb
        replace HB:=zm (below_step zl hb)
        (try clear hb)
        refine hK.out _ _ ⟨zcl BK248.out 0,zcl BK248.out 1,zcl BK218.out 0,zcl BK218.out 1⟩ (fun hHeld=>?_)
        clear hK K
        refine zO (some 57) ?_
        refine zP 4 (some 58) #[true,true,true,true,true] (by kernel_rfl) ?_
        refine done_ (by kernel_rfl) ?_
        try go_wp2
        replace HO_242000:=zm (Kd.R_drew HO_242000.out)
        replace HO_242001:=zm (Kd.R_drew HO_242001.out)
        replace HO_249000:=zm (Kd.R_drew HO_249000.out)
        replace HO_249001:=zm (Kd.R_drew HO_249001.out)
        replace HO_256000:=zm (Kd.R_drew HO_256000.out)
        replace HO_256001:=zm (Kd.R_drew HO_256001.out)
        replace HO_264000:=zm (Kd.R_drew HO_264000.out)
        replace HO_264001:=zm (Kd.R_drew HO_264001.out)
        replace HO267:=zm (Kd.R_drew HO267.out)
        replace HO270:=zm (Kd.R_drew HO270.out)
        replace BK218:=zm (blk_drew BK218.out)
        replace BK219:=zm (blk_drew BK219.out)
        replace BK241:=zm (blk_drew BK241.out)
        replace BK248:=zm (blk_drew BK248.out)
        replace BK255:=zm (blk_drew BK255.out)
        replace BK263:=zm (blk_drew BK263.out)
        replace HB:=zm (below_drew1 HB.out)
        refine start_ (n:=5) (S:=fun w'=>w'.cell? ⟨gb255,0,none⟩ = some (.slice Ao61 t249.length co61)∧w'.cell? ⟨gb255,1,none⟩ = some (.slice Ao67 t252.length co67)∧w'.cell? ⟨gb219,0,none⟩ = some (.slice A1_0 l1_0.length c1_0)∧w'.cell? ⟨gb219,1,none⟩ = some (.slice A1_1 l1_1.length c1_1)) (ds:=[]) #[false,false,false,false,false] (by kernel_rfl) rfl rfl ⟨zcl BK255.out 0,zcl BK255.out 1,zcl BK219.out 0,zcl BK219.out 1⟩ (fun hHeld=>?_)
        generalize w121.drew = w122 at HO_242000 HO_242001 HO_249000 HO_249001 HO_256000 HO_256001 HO_264000 HO_264001 HO267 HO270 BK218 BK219 BK241 BK248 BK255 BK263 HB hHeld ⊢
        refine take_ (i:=0) (N:=some 59) (v:=?_) (a':=?_) #[true,false,false,false,false] rfl rfl (by kernel_rfl) (fun _ _ _ h=>h) (Or.inl ⟨by rfl,?_⟩) hHeld ?_ ?_
        rotate_left
        ·rintro w' ⟨s0,s1,s2,s3⟩
         go_simp
         with_reducible rfl
        rotate_left
        ·simp only [Act.put,List.setIfInBounds_toArray,List.set_cons_zero,List.set_cons_succ,i64_w,i32_w]
         rfl
        refine take_ (i:=1) (N:=some 60) (v:=?_) (a':=?_) #[true,true,false,false,false] rfl rfl (by kernel_rfl) (fun _ _ _ h=>h) (Or.inl ⟨by rfl,?_⟩) hHeld ?_ ?_
        rotate_left
        ·rintro w' ⟨s0,s1,s2,s3⟩
         go_simp
         with_reducible rfl
        rotate_left
        ·simp only [Act.put,List.setIfInBounds_toArray,List.set_cons_zero,List.set_cons_succ,i64_w,i32_w]
         rfl
        refine one_ (i:=2) (N:=some 61) #[true,true,true,false,false] rfl rfl (by kernel_rfl) (by decide) (fun K hK=>?_)
        refine goes_ Try.func25 (by kernel_rfl) rfl #[.agg #[.slice A1_0 l1_0.length c1_0,.slice A1_1 l1_1.length c1_1]] (by rfl) rfl rfl (by (try simp only [List.map_toArray,List.map_cons,List.map_nil]);first|done|rfl|(simp only [List.length_drop,List.length_take];rfl)) ?_
        with_reducible refine (laws_toSubstitution.calls kj24 _ _ l1_0 _ _ l1_1 t272 t275 _ ?side1 ?side2 ?side3 ?side4 A111.out).mono ?_
        (case side1=>exact zc HR1_0.out)
        (case side2=>exact HC1_0.out)
        (case side3=>exact zc HR1_1.out)
        (case side4=>exact HC1_1.out)
        rintro e w123 ⟨v273,v276,rfl,ho0,ho1,hb⟩
        refine ⟨_,rfl,?_⟩
        have HO274:=zm (Kd.R_lower (zn (zn (zn (zn (zn (zn (zn (zn (zn (zn ho0 (zr HO_242000.out)) (zr HO_242001.out)) (zr HO_249000.out)) (zr HO_249001.out)) (zr HO_256000.out)) (zr HO_256001.out)) (zr HO_264000.out)) (zr HO_264001.out)) (zr HO267.out)) (zr HO270.out)) (below_size zl))
        have HO277:=zm (Kd.R_lower (zn (zn (zn (zn (zn (zn (zn (zn (zn (zn ho1 (zr HO_242000.out)) (zr HO_242001.out)) (zr HO_249000.out)) (zr HO_249001.out)) (zr HO_256000.out)) (zr HO_256001.out)) (zr HO_264000.out)) (zr HO_264001.out)) (zr HO267.out)) (zr HO270.out)) (below_size zl))
        replace HO_242000:=(zO2 HO_242000 hb ho0 ho1)
        replace HO_242001:=(zO2 HO_242001 hb ho0 ho1)
        replace HO_249000:=(zO2 HO_249000 hb ho0 ho1)
        replace HO_249001:=(zO2 HO_249001 hb ho0 ho1)
        replace HO_256000:=(zO2 HO_256000 hb ho0 ho1)
        replace HO_256001:=(zO2 HO_256001 hb ho0 ho1)
        replace HO_264000:=(zO2 HO_264000 hb ho0 ho1)
        replace HO_264001:=(zO2 HO_264001 hb ho0 ho1)
        replace HO267:=(zO2 HO267 hb ho0 ho1)
        replace HO270:=(zO2 HO270 hb ho0 ho1)
        replace BK218:=zbk BK218 hb
        replace BK219:=zbk BK219 hb
        replace BK241:=zbk BK241 hb
        replace BK248:=zbk BK248 hb
        replace BK255:=zbk BK255 hb
        replace BK263:=zbk BK263 hb
        replace HB:=zm (below_step zl hb)
        (try clear hb ho0 ho1)
        obtain ⟨Ao124,co124,eo124⟩:=Kd.R_slice HO274.out
        (first|subst eo124|(injection eo124 with f1_ f2_ f3_;obtain rfl:=f1_.symm;obtain rfl:=f3_.symm))
        obtain ⟨Ao125,co125,eo125⟩:=Kd.R_slice HO277.out
        (first|subst eo125|(injection eo125 with f1_ f2_ f3_;obtain rfl:=f1_.symm;obtain rfl:=f3_.symm))
        refine hK.out _ _ ⟨zcl BK255.out 0,zcl BK255.out 1,zcl BK219.out 0,zcl BK219.out 1⟩ (fun hHeld=>?_)
        clear hK K
        refine zO (some 61) ?_
        refine one_ (i:=3) (N:=some 62) #[true,true,true,true,false] rfl rfl (by kernel_rfl) (by decide) (fun K hK=>?_)
        refine goes_ Try.func27 (by kernel_rfl) rfl #[.agg #[.slice Ao61 t249.length co61,.slice Ao67 t252.length co67],.agg #[.slice Ao124 t272.length co124,.slice Ao125 t275.length co125]] (by rfl) rfl rfl (by (try simp only [List.map_toArray,List.map_cons,List.map_nil]);first|done|rfl|(simp only [List.length_drop,List.length_take];rfl)) ?_
        with_reducible refine (laws_eqSubstitution.calls kj24 _ _ t249 _ _ t252 _ _ t272 _ _ t275 true _ ?side1 ?side2 ?side3 ?side4 ?side5 ?side6 ?side7 ?side8 A112.out).mono ?_
        (case side1=>exact zk HO_256000.out)
        (case side2=>exact (Kd.R_reads' HO_256000.out).2.1)
        (case side3=>exact zk HO_256001.out)
        (case side4=>exact (Kd.R_reads' HO_256001.out).2.1)
        (case side5=>exact zk HO274.out)
        (case side6=>exact (Kd.R_reads' HO274.out).2.1)
        (case side7=>exact zk HO277.out)
        (case side8=>exact (Kd.R_reads' HO277.out).2.1)
        rintro e w126 ⟨rfl,hb⟩
        refine ⟨_,rfl,?_⟩
        replace HO_242000:=zRb HO_242000 hb
        replace HO_242001:=zRb HO_242001 hb
        replace HO_249000:=zRb HO_249000 hb
        replace HO_249001:=zRb HO_249001 hb
        replace HO_256000:=zRb HO_256000 hb
        replace HO_256001:=zRb HO_256001 hb
        replace HO_264000:=zRb HO_264000 hb
        replace HO_264001:=zRb HO_264001 hb
        replace HO267:=zRb HO267 hb
        replace HO270:=zRb HO270 hb
        replace HO274:=zRb HO274 hb
        replace HO277:=zRb HO277 hb
        replace BK218:=zbk BK218 hb
        replace BK219:=zbk BK219 hb
        replace BK241:=zbk BK241 hb
        replace BK248:=zbk BK248 hb
        replace BK255:=zbk BK255 hb
        replace BK263:=zbk BK263 hb
        replace HB:=zm (below_step zl hb)
        (try clear hb)
        refine hK.out _ _ ⟨zcl BK255.out 0,zcl BK255.out 1,zcl BK219.out 0,zcl BK219.out 1⟩ (fun hHeld=>?_)
        clear hK K
        refine zO (some 62) ?_
        refine zP 4 (some 63) #[true,true,true,true,true] (by kernel_rfl) ?_
        refine done_ (by kernel_rfl) ?_
        have hnb127:=NB248_218.out
        have hnc127:=NB218_248.out
        have hnb128:=NB248_219.out
        have hnc128:=NB219_248.out
        have hnb129:=NB248_241.out
        have hnc129:=NB241_248.out
        have hnb130:=NB248_255.out
        have hnc130:=NB255_248.out
        have hnb131:=NB248_263.out
        have hnc131:=NB263_248.out
        have hcz132_0:w126.cell? ⟨gb248,0,none⟩ = some (.slice Ao51 t242.length co51):=zcl BK248.out 0
        have hcz132_1:w126.cell? ⟨gb248,1,none⟩ = some (.slice Ao56 t245.length co56):=zcl BK248.out 1
        have hfz132_0:=blk_frozen BK248.out 0
        have hfz132_1:=blk_frozen BK248.out 1
        go_upto_region 21 with (first|((with_reducible refine gate_callee (f:=28) rfl ?_);refine zg (some 66) Try.func28 #[.agg #[.slice Ao51 t242.length co51,.slice Ao56 t245.length co56],.int .i64 1] ?_;(with_reducible refine (laws_markSubstitution.calls kj24 (fun k_=>some k_ = (.slice Ao51 t242.length co51:Value).ownBlock) (.slice Ao51 t242.length co51) t242 (fun k_=>some k_ = (.slice Ao56 t245.length co56:Value).ownBlock) (.slice Ao56 t245.length co56) t245 1 t279 t280 t281 w _ ?side1 ?side2 ?side3 ?side4 ?side5 A114.out).mono ?_);(case side1=>exact zl);(case side2=>exact Kd.R_tight rfl HO_249000.out);(case side3=>exact fun k_ e_=>(HO_249000.out.1 k_ e_.symm).1.1.1.1.2.2.1);(case side4=>exact Kd.R_tight rfl HO_249001.out);(case side5=>exact fun k_ e_=>(HO_249001.out.1 k_ e_.symm).1.1.1.1.2.2.1);rintro e w133 ⟨rfl,hy0,hy1,hb,hkp⟩;refine ⟨_,rfl,?_⟩;replace HO_242000:=zm (Kd.R_mono (ok':=fun k_=>zx (sv Ao45 t237 co45) k_∧zx (sv Ao51 t242 co51) k_∧zx (sv Ao56 t245 co56) k_∧zx (sv Ao61 t249 co61) k_∧zx (sv Ao67 t252 co67) k_∧zx (sv Ao73 t256 co73) k_∧zx (sv Ao80 t259 co80) k_∧zx (sv Ao119 t265 co119) k_∧zx (sv Ao120 t268 co120) k_∧zx (sv Ao124 t272 co124) k_∧zx (sv Ao125 t275 co125) k_) (Kd.R_keptB (HO_242000.out) hkp (fun k_ hk_ hs_=>Or.elim hs_ (fun e_=>(hk_.1.1.1.1.2.1) e_) (fun e_=>(hk_.1.1.1.1.2.2.1) e_))) (fun k_ hk_=>⟨hk_.1.1.1.1.1.1,hk_.1.1.1.1.1.2.1,hk_.1.1.1.1.1.2.2.1,hk_.1.1.1.1.1.2.2.2.1,hk_.1.1.1.1.1.2.2.2.2.1,hk_.1.1.1.1.1.2.2.2.2.2.1,hk_.1.1.1.1.1.2.2.2.2.2.2,hk_.1.1.1.1.2,hk_.1.1.1.2,hk_.1.1.2,hk_.1.2⟩));replace HO_242001:=zm (Kd.R_mono (ok':=fun k_=>zx (sv Ao43 t234 co43) k_∧zx (sv Ao51 t242 co51) k_∧zx (sv Ao56 t245 co56) k_∧zx (sv Ao61 t249 co61) k_∧zx (sv Ao67 t252 co67) k_∧zx (sv Ao73 t256 co73) k_∧zx (sv Ao80 t259 co80) k_∧zx (sv Ao119 t265 co119) k_∧zx (sv Ao120 t268 co120) k_∧zx (sv Ao124 t272 co124) k_∧zx (sv Ao125 t275 co125) k_) (Kd.R_keptB (HO_242001.out) hkp (fun k_ hk_ hs_=>Or.elim hs_ (fun e_=>(hk_.1.1.1.1.2.1) e_) (fun e_=>(hk_.1.1.1.1.2.2.1) e_))) (fun k_ hk_=>⟨hk_.1.1.1.1.1.1,hk_.1.1.1.1.1.2.1,hk_.1.1.1.1.1.2.2.1,hk_.1.1.1.1.1.2.2.2.1,hk_.1.1.1.1.1.2.2.2.2.1,hk_.1.1.1.1.1.2.2.2.2.2.1,hk_.1.1.1.1.1.2.2.2.2.2.2,hk_.1.1.1.1.2,hk_.1.1.1.2,hk_.1.1.2,hk_.1.2⟩));replace HO_256000:=zm (Kd.R_mono (ok':=fun k_=>zx (sv Ao43 t234 co43) k_∧zx (sv Ao45 t237 co45) k_∧zx (sv Ao51 t242 co51) k_∧zx (sv Ao56 t245 co56) k_∧zx (sv Ao67 t252 co67) k_∧zx (sv Ao73 t256 co73) k_∧zx (sv Ao80 t259 co80) k_∧zx (sv Ao119 t265 co119) k_∧zx (sv Ao120 t268 co120) k_∧zx (sv Ao124 t272 co124) k_∧zx (sv Ao125 t275 co125) k_) (Kd.R_keptB (HO_256000.out) hkp (fun k_ hk_ hs_=>Or.elim hs_ (fun e_=>(hk_.1.1.1.1.2.2.1) e_) (fun e_=>(hk_.1.1.1.1.2.2.2.1) e_))) (fun k_ hk_=>⟨hk_.1.1.1.1.1.1,hk_.1.1.1.1.1.2.1,hk_.1.1.1.1.1.2.2.1,hk_.1.1.1.1.1.2.2.2.1,hk_.1.1.1.1.1.2.2.2.2.1,hk_.1.1.1.1.1.2.2.2.2.2.1,hk_.1.1.1.1.1.2.2.2.2.2.2,hk_.1.1.1.1.2,hk_.1.1.1.2,hk_.1.1.2,hk_.1.2⟩));replace HO_256001:=zm (Kd.R_mono (ok':=fun k_=>zx (sv Ao43 t234 co43) k_∧zx (sv Ao45 t237 co45) k_∧zx (sv Ao51 t242 co51) k_∧zx (sv Ao56 t245 co56) k_∧zx (sv Ao61 t249 co61) k_∧zx (sv Ao73 t256 co73) k_∧zx (sv Ao80 t259 co80) k_∧zx (sv Ao119 t265 co119) k_∧zx (sv Ao120 t268 co120) k_∧zx (sv Ao124 t272 co124) k_∧zx (sv Ao125 t275 co125) k_) (Kd.R_keptB (HO_256001.out) hkp (fun k_ hk_ hs_=>Or.elim hs_ (fun e_=>(hk_.1.1.1.1.2.2.1) e_) (fun e_=>(hk_.1.1.1.1.2.2.2.1) e_))) (fun k_ hk_=>⟨hk_.1.1.1.1.1.1,hk_.1.1.1.1.1.2.1,hk_.1.1.1.1.1.2.2.1,hk_.1.1.1.1.1.2.2.2.1,hk_.1.1.1.1.1.2.2.2.2.1,hk_.1.1.1.1.1.2.2.2.2.2.1,hk_.1.1.1.1.1.2.2.2.2.2.2,hk_.1.1.1.1.2,hk_.1.1.1.2,hk_.1.1.2,hk_.1.2⟩));replace HO_264000:=zm (Kd.R_mono (ok':=fun k_=>zx (sv Ao43 t234 co43) k_∧zx (sv Ao45 t237 co45) k_∧zx (sv Ao51 t242 co51) k_∧zx (sv Ao56 t245 co56) k_∧zx (sv Ao61 t249 co61) k_∧zx (sv Ao67 t252 co67) k_∧zx (sv Ao80 t259 co80) k_∧zx (sv Ao119 t265 co119) k_∧zx (sv Ao120 t268 co120) k_∧zx (sv Ao124 t272 co124) k_∧zx (sv Ao125 t275 co125) k_) (Kd.R_keptB (HO_264000.out) hkp (fun k_ hk_ hs_=>Or.elim hs_ (fun e_=>(hk_.1.1.1.1.2.2.1) e_) (fun e_=>(hk_.1.1.1.1.2.2.2.1) e_))) (fun k_ hk_=>⟨hk_.1.1.1.1.1.1,hk_.1.1.1.1.1.2.1,hk_.1.1.1.1.1.2.2.1,hk_.1.1.1.1.1.2.2.2.1,hk_.1.1.1.1.1.2.2.2.2.1,hk_.1.1.1.1.1.2.2.2.2.2.1,hk_.1.1.1.1.1.2.2.2.2.2.2,hk_.1.1.1.1.2,hk_.1.1.1.2,hk_.1.1.2,hk_.1.2⟩));replace HO_264001:=zm (Kd.R_mono (ok':=fun k_=>zx (sv Ao43 t234 co43) k_∧zx (sv Ao45 t237 co45) k_∧zx (sv Ao51 t242 co51) k_∧zx (sv Ao56 t245 co56) k_∧zx (sv Ao61 t249 co61) k_∧zx (sv Ao67 t252 co67) k_∧zx (sv Ao73 t256 co73) k_∧zx (sv Ao119 t265 co119) k_∧zx (sv Ao120 t268 co120) k_∧zx (sv Ao124 t272 co124) k_∧zx (sv Ao125 t275 co125) k_) (Kd.R_keptB (HO_264001.out) hkp (fun k_ hk_ hs_=>Or.elim hs_ (fun e_=>(hk_.1.1.1.1.2.2.1) e_) (fun e_=>(hk_.1.1.1.1.2.2.2.1) e_))) (fun k_ hk_=>⟨hk_.1.1.1.1.1.1,hk_.1.1.1.1.1.2.1,hk_.1.1.1.1.1.2.2.1,hk_.1.1.1.1.1.2.2.2.1,hk_.1.1.1.1.1.2.2.2.2.1,hk_.1.1.1.1.1.2.2.2.2.2.1,hk_.1.1.1.1.1.2.2.2.2.2.2,hk_.1.1.1.1.2,hk_.1.1.1.2,hk_.1.1.2,hk_.1.2⟩));replace BK218:=zm (blk_kept (zb BK218.out) hkp (fun hs_=>Or.elim hs_ (fun e_=>(fun e_=>(Kd.R_ne HO_249000.out BK218.out (by decide)) e_) e_) (fun e_=>(fun e_=>(Kd.R_ne HO_249001.out BK218.out (by decide)) e_) e_)));replace BK219:=zm (blk_kept (zb BK219.out) hkp (fun hs_=>Or.elim hs_ (fun e_=>(fun e_=>(Kd.R_ne HO_249000.out BK219.out (by decide)) e_) e_) (fun e_=>(fun e_=>(Kd.R_ne HO_249001.out BK219.out (by decide)) e_) e_)));replace BK241:=zm (blk_kept (zb BK241.out) hkp (fun hs_=>Or.elim hs_ (fun e_=>(fun e_=>(Kd.R_ne HO_249000.out BK241.out (by decide)) e_) e_) (fun e_=>(fun e_=>(Kd.R_ne HO_249001.out BK241.out (by decide)) e_) e_)));replace BK248:=zm (blk_kept (zb BK248.out) hkp (fun hs_=>Or.elim hs_ (fun e_=>(fun e_=>(Kd.R_ne HO_249000.out BK248.out (by decide)) e_) e_) (fun e_=>(fun e_=>(Kd.R_ne HO_249001.out BK248.out (by decide)) e_) e_)));replace BK255:=zm (blk_kept (zb BK255.out) hkp (fun hs_=>Or.elim hs_ (fun e_=>(fun e_=>(Kd.R_ne HO_249000.out BK255.out (by decide)) e_) e_) (fun e_=>(fun e_=>(Kd.R_ne HO_249001.out BK255.out (by decide)) e_) e_)));replace BK263:=zm (blk_kept (zb BK263.out) hkp (fun hs_=>Or.elim hs_ (fun e_=>(fun e_=>(Kd.R_ne HO_249000.out BK263.out (by decide)) e_) e_) (fun e_=>(fun e_=>(Kd.R_ne HO_249001.out BK263.out (by decide)) e_) e_)));replace HO_249000:=zm (Kd.R_reok rfl hy0 (fun k_ e_=>HO_249000.out.1 k_ e_));replace HO_249001:=zm (Kd.R_reok rfl hy1 (fun k_ e_=>HO_249001.out.1 k_ e_));replace HO267:=zm (Kd.R_mono (ok':=fun k_=>zx (sv Ao43 t234 co43) k_∧zx (sv Ao45 t237 co45) k_∧zx (sv Ao51 t242 co51) k_∧zx (sv Ao56 t245 co56) k_∧zx (sv Ao61 t249 co61) k_∧zx (sv Ao67 t252 co67) k_∧zx (sv Ao73 t256 co73) k_∧zx (sv Ao80 t259 co80) k_∧zx (sv Ao120 t268 co120) k_∧zx (sv Ao124 t272 co124) k_∧zx (sv Ao125 t275 co125) k_) (Kd.R_keptB (HO267.out) hkp (fun k_ hk_ hs_=>Or.elim hs_ (fun e_=>(hk_.1.1.1.1.1.1.1.2) e_) (fun e_=>(hk_.1.1.1.1.1.1.2) e_))) (fun k_ hk_=>⟨hk_.1.1.1.1.1.1.1.1.1.1.2,hk_.1.1.1.1.1.1.1.1.1.2,hk_.1.1.1.1.1.1.1.1.2,hk_.1.1.1.1.1.1.1.2,hk_.1.1.1.1.1.1.2,hk_.1.1.1.1.1.2,hk_.1.1.1.1.2,hk_.1.1.1.2,hk_.1.1.1.1.1.1.1.1.1.1.1,hk_.1.1.2,hk_.1.2⟩));replace HO270:=zm (Kd.R_mono (ok':=fun k_=>zx (sv Ao43 t234 co43) k_∧zx (sv Ao45 t237 co45) k_∧zx (sv Ao51 t242 co51) k_∧zx (sv Ao56 t245 co56) k_∧zx (sv Ao61 t249 co61) k_∧zx (sv Ao67 t252 co67) k_∧zx (sv Ao73 t256 co73) k_∧zx (sv Ao80 t259 co80) k_∧zx (sv Ao119 t265 co119) k_∧zx (sv Ao124 t272 co124) k_∧zx (sv Ao125 t275 co125) k_) (Kd.R_keptB (HO270.out) hkp (fun k_ hk_ hs_=>Or.elim hs_ (fun e_=>(hk_.1.1.1.1.1.1.1.2) e_) (fun e_=>(hk_.1.1.1.1.1.1.2) e_))) (fun k_ hk_=>⟨hk_.1.1.1.1.1.1.1.1.1.1.2,hk_.1.1.1.1.1.1.1.1.1.2,hk_.1.1.1.1.1.1.1.1.2,hk_.1.1.1.1.1.1.1.2,hk_.1.1.1.1.1.1.2,hk_.1.1.1.1.1.2,hk_.1.1.1.1.2,hk_.1.1.1.2,hk_.1.1.1.1.1.1.1.1.1.1.1,hk_.1.1.2,hk_.1.2⟩));replace HO274:=zm (Kd.R_mono (ok':=fun k_=>zx (sv Ao43 t234 co43) k_∧zx (sv Ao45 t237 co45) k_∧zx (sv Ao51 t242 co51) k_∧zx (sv Ao56 t245 co56) k_∧zx (sv Ao61 t249 co61) k_∧zx (sv Ao67 t252 co67) k_∧zx (sv Ao73 t256 co73) k_∧zx (sv Ao80 t259 co80) k_∧zx (sv Ao119 t265 co119) k_∧zx (sv Ao120 t268 co120) k_∧zx (sv Ao125 t275 co125) k_) (Kd.R_keptB (HO274.out) hkp (fun k_ hk_ hs_=>Or.elim hs_ (fun e_=>(hk_.1.1.1.1.1.1.1.2) e_) (fun e_=>(hk_.1.1.1.1.1.1.2) e_))) (fun k_ hk_=>⟨hk_.1.1.1.1.1.1.1.1.1.1.2,hk_.1.1.1.1.1.1.1.1.1.2,hk_.1.1.1.1.1.1.1.1.2,hk_.1.1.1.1.1.1.1.2,hk_.1.1.1.1.1.1.2,hk_.1.1.1.1.1.2,hk_.1.1.1.1.2,hk_.1.1.1.2,hk_.1.1.2,hk_.1.2,hk_.1.1.1.1.1.1.1.1.1.1.1⟩));replace HO277:=zm (Kd.R_mono (ok':=fun k_=>zx (sv Ao43 t234 co43) k_∧zx (sv Ao45 t237 co45) k_∧zx (sv Ao51 t242 co51) k_∧zx (sv Ao56 t245 co56) k_∧zx (sv Ao61 t249 co61) k_∧zx (sv Ao67 t252 co67) k_∧zx (sv Ao73 t256 co73) k_∧zx (sv Ao80 t259 co80) k_∧zx (sv Ao119 t265 co119) k_∧zx (sv Ao120 t268 co120) k_∧zx (sv Ao124 t272 co124) k_) (Kd.R_keptB (HO277.out) hkp (fun k_ hk_ hs_=>Or.elim hs_ (fun e_=>(hk_.1.1.1.1.1.1.1.2) e_) (fun e_=>(hk_.1.1.1.1.1.1.2) e_))) (fun k_ hk_=>⟨hk_.1.1.1.1.1.1.1.1.1.1.2,hk_.1.1.1.1.1.1.1.1.1.2,hk_.1.1.1.1.1.1.1.1.2,hk_.1.1.1.1.1.1.1.2,hk_.1.1.1.1.1.1.2,hk_.1.1.1.1.1.2,hk_.1.1.1.1.2,hk_.1.1.1.2,hk_.1.1.2,hk_.1.2,hk_.1.1.1.1.1.1.1.1.1.1.1⟩));replace HB:=zm (hb);(try clear hb hkp hy0 hy1);have hnb134:=NB255_218.out;have hnc134:=NB218_255.out;have hnb135:=NB255_219.out;have hnc135:=NB219_255.out;have hnb136:=NB255_241.out;have hnc136:=NB241_255.out;have hnb137:=NB255_263.out;have hnc137:=NB263_255.out;have hcz138_0:w133.cell? ⟨gb255,0,none⟩ = some (.slice Ao61 t249.length co61):=zcl BK255.out 0;have hcz138_1:w133.cell? ⟨gb255,1,none⟩ = some (.slice Ao67 t252.length co67):=zcl BK255.out 1;have hfz138_0:=blk_frozen BK255.out 0;have hfz138_1:=blk_frozen BK255.out 1)|((with_reducible refine gate_callee (f:=28) rfl ?_);refine zg (some 69) Try.func28 #[.agg #[.slice Ao61 t249.length co61,.slice Ao67 t252.length co67],.int .i64 t279] ?_;(with_reducible refine (laws_markSubstitution.calls kj24 (fun k_=>some k_ = (.slice Ao61 t249.length co61:Value).ownBlock) (.slice Ao61 t249.length co61) t249 (fun k_=>some k_ = (.slice Ao67 t252.length co67:Value).ownBlock) (.slice Ao67 t252.length co67) t252 t279 t282 t283 t284 w _ ?side1 ?side2 ?side3 ?side4 ?side5 A115.out).mono ?_);(case side1=>exact zl);(case side2=>exact Kd.R_tight rfl HO_256000.out);(case side3=>exact fun k_ e_=>(HO_256000.out.1 k_ e_.symm).2.2.2.2.1);(case side4=>exact Kd.R_tight rfl HO_256001.out);(case side5=>exact fun k_ e_=>(HO_256001.out.1 k_ e_.symm).2.2.2.2.1);rintro e w139 ⟨rfl,hy0,hy1,hb,hkp⟩;refine ⟨_,rfl,?_⟩;replace HO_242000:=zm (Kd.R_mono (ok':=fun k_=>zx (sv Ao45 t237 co45) k_∧zx (sv Ao51 t242 co51) k_∧zx (sv Ao56 t245 co56) k_∧zx (sv Ao61 t249 co61) k_∧zx (sv Ao67 t252 co67) k_∧zx (sv Ao73 t256 co73) k_∧zx (sv Ao80 t259 co80) k_∧zx (sv Ao119 t265 co119) k_∧zx (sv Ao120 t268 co120) k_∧zx (sv Ao124 t272 co124) k_∧zx (sv Ao125 t275 co125) k_) (Kd.R_keptB (HO_242000.out) hkp (fun k_ hk_ hs_=>Or.elim hs_ (fun e_=>(hk_.2.2.2.1) e_) (fun e_=>(hk_.2.2.2.2.1) e_))) (fun k_ hk_=>⟨hk_.1.1,hk_.1.2.1,hk_.1.2.2.1,hk_.1.2.2.2.1,hk_.1.2.2.2.2.1,hk_.1.2.2.2.2.2.1,hk_.1.2.2.2.2.2.2.1,hk_.1.2.2.2.2.2.2.2.1,hk_.1.2.2.2.2.2.2.2.2.1,hk_.1.2.2.2.2.2.2.2.2.2.1,hk_.1.2.2.2.2.2.2.2.2.2.2⟩));replace HO_242001:=zm (Kd.R_mono (ok':=fun k_=>zx (sv Ao43 t234 co43) k_∧zx (sv Ao51 t242 co51) k_∧zx (sv Ao56 t245 co56) k_∧zx (sv Ao61 t249 co61) k_∧zx (sv Ao67 t252 co67) k_∧zx (sv Ao73 t256 co73) k_∧zx (sv Ao80 t259 co80) k_∧zx (sv Ao119 t265 co119) k_∧zx (sv Ao120 t268 co120) k_∧zx (sv Ao124 t272 co124) k_∧zx (sv Ao125 t275 co125) k_) (Kd.R_keptB (HO_242001.out) hkp (fun k_ hk_ hs_=>Or.elim hs_ (fun e_=>(hk_.2.2.2.1) e_) (fun e_=>(hk_.2.2.2.2.1) e_))) (fun k_ hk_=>⟨hk_.1.1,hk_.1.2.1,hk_.1.2.2.1,hk_.1.2.2.2.1,hk_.1.2.2.2.2.1,hk_.1.2.2.2.2.2.1,hk_.1.2.2.2.2.2.2.1,hk_.1.2.2.2.2.2.2.2.1,hk_.1.2.2.2.2.2.2.2.2.1,hk_.1.2.2.2.2.2.2.2.2.2.1,hk_.1.2.2.2.2.2.2.2.2.2.2⟩));replace HO_249000:=zm (Kd.R_mono (ok':=fun k_=>zx (sv Ao43 t234 co43) k_∧zx (sv Ao45 t237 co45) k_∧zx (sv Ao56 t245 co56) k_∧zx (sv Ao61 t249 co61) k_∧zx (sv Ao67 t252 co67) k_∧zx (sv Ao73 t256 co73) k_∧zx (sv Ao80 t259 co80) k_∧zx (sv Ao119 t265 co119) k_∧zx (sv Ao120 t268 co120) k_∧zx (sv Ao124 t272 co124) k_∧zx (sv Ao125 t275 co125) k_) (Kd.R_keptB (HO_249000.out) hkp (fun k_ hk_ hs_=>Or.elim hs_ (fun e_=>(hk_.1.1.1.1.2.2.2.1) e_) (fun e_=>(hk_.1.1.1.1.2.2.2.2.1) e_))) (fun k_ hk_=>⟨hk_.1.1.1.1.1.1,hk_.1.1.1.1.1.2.1,hk_.1.1.1.1.1.2.2.1,hk_.1.1.1.1.1.2.2.2.1,hk_.1.1.1.1.1.2.2.2.2.1,hk_.1.1.1.1.1.2.2.2.2.2.1,hk_.1.1.1.1.1.2.2.2.2.2.2,hk_.1.1.1.1.2,hk_.1.1.1.2,hk_.1.1.2,hk_.1.2⟩));replace HO_249001:=zm (Kd.R_mono (ok':=fun k_=>zx (sv Ao43 t234 co43) k_∧zx (sv Ao45 t237 co45) k_∧zx (sv Ao51 t242 co51) k_∧zx (sv Ao61 t249 co61) k_∧zx (sv Ao67 t252 co67) k_∧zx (sv Ao73 t256 co73) k_∧zx (sv Ao80 t259 co80) k_∧zx (sv Ao119 t265 co119) k_∧zx (sv Ao120 t268 co120) k_∧zx (sv Ao124 t272 co124) k_∧zx (sv Ao125 t275 co125) k_) (Kd.R_keptB (HO_249001.out) hkp (fun k_ hk_ hs_=>Or.elim hs_ (fun e_=>(hk_.1.1.1.1.2.2.2.1) e_) (fun e_=>(hk_.1.1.1.1.2.2.2.2.1) e_))) (fun k_ hk_=>⟨hk_.1.1.1.1.1.1,hk_.1.1.1.1.1.2.1,hk_.1.1.1.1.1.2.2.1,hk_.1.1.1.1.1.2.2.2.1,hk_.1.1.1.1.1.2.2.2.2.1,hk_.1.1.1.1.1.2.2.2.2.2.1,hk_.1.1.1.1.1.2.2.2.2.2.2,hk_.1.1.1.1.2,hk_.1.1.1.2,hk_.1.1.2,hk_.1.2⟩));replace HO_264000:=zm (Kd.R_mono (ok':=fun k_=>zx (sv Ao43 t234 co43) k_∧zx (sv Ao45 t237 co45) k_∧zx (sv Ao51 t242 co51) k_∧zx (sv Ao56 t245 co56) k_∧zx (sv Ao61 t249 co61) k_∧zx (sv Ao67 t252 co67) k_∧zx (sv Ao80 t259 co80) k_∧zx (sv Ao119 t265 co119) k_∧zx (sv Ao120 t268 co120) k_∧zx (sv Ao124 t272 co124) k_∧zx (sv Ao125 t275 co125) k_) (Kd.R_keptB (HO_264000.out) hkp (fun k_ hk_ hs_=>Or.elim hs_ (fun e_=>(hk_.2.2.2.2.1) e_) (fun e_=>(hk_.2.2.2.2.2.1) e_))) (fun k_ hk_=>⟨hk_.1.1,hk_.1.2.1,hk_.1.2.2.1,hk_.1.2.2.2.1,hk_.1.2.2.2.2.1,hk_.1.2.2.2.2.2.1,hk_.1.2.2.2.2.2.2.1,hk_.1.2.2.2.2.2.2.2.1,hk_.1.2.2.2.2.2.2.2.2.1,hk_.1.2.2.2.2.2.2.2.2.2.1,hk_.1.2.2.2.2.2.2.2.2.2.2⟩));replace HO_264001:=zm (Kd.R_mono (ok':=fun k_=>zx (sv Ao43 t234 co43) k_∧zx (sv Ao45 t237 co45) k_∧zx (sv Ao51 t242 co51) k_∧zx (sv Ao56 t245 co56) k_∧zx (sv Ao61 t249 co61) k_∧zx (sv Ao67 t252 co67) k_∧zx (sv Ao73 t256 co73) k_∧zx (sv Ao119 t265 co119) k_∧zx (sv Ao120 t268 co120) k_∧zx (sv Ao124 t272 co124) k_∧zx (sv Ao125 t275 co125) k_) (Kd.R_keptB (HO_264001.out) hkp (fun k_ hk_ hs_=>Or.elim hs_ (fun e_=>(hk_.2.2.2.2.1) e_) (fun e_=>(hk_.2.2.2.2.2.1) e_))) (fun k_ hk_=>⟨hk_.1.1,hk_.1.2.1,hk_.1.2.2.1,hk_.1.2.2.2.1,hk_.1.2.2.2.2.1,hk_.1.2.2.2.2.2.1,hk_.1.2.2.2.2.2.2.1,hk_.1.2.2.2.2.2.2.2.1,hk_.1.2.2.2.2.2.2.2.2.1,hk_.1.2.2.2.2.2.2.2.2.2.1,hk_.1.2.2.2.2.2.2.2.2.2.2⟩));replace BK218:=zm (blk_kept (zb BK218.out) hkp (fun hs_=>Or.elim hs_ (fun e_=>(fun e_=>(Kd.R_ne HO_256000.out BK218.out (by decide)) e_) e_) (fun e_=>(fun e_=>(Kd.R_ne HO_256001.out BK218.out (by decide)) e_) e_)));replace BK219:=zm (blk_kept (zb BK219.out) hkp (fun hs_=>Or.elim hs_ (fun e_=>(fun e_=>(Kd.R_ne HO_256000.out BK219.out (by decide)) e_) e_) (fun e_=>(fun e_=>(Kd.R_ne HO_256001.out BK219.out (by decide)) e_) e_)));replace BK241:=zm (blk_kept (zb BK241.out) hkp (fun hs_=>Or.elim hs_ (fun e_=>(fun e_=>(Kd.R_ne HO_256000.out BK241.out (by decide)) e_) e_) (fun e_=>(fun e_=>(Kd.R_ne HO_256001.out BK241.out (by decide)) e_) e_)));replace BK248:=zm (blk_kept (zb BK248.out) hkp (fun hs_=>Or.elim hs_ (fun e_=>(fun e_=>(Kd.R_ne HO_256000.out BK248.out (by decide)) e_) e_) (fun e_=>(fun e_=>(Kd.R_ne HO_256001.out BK248.out (by decide)) e_) e_)));replace BK255:=zm (blk_kept (zb BK255.out) hkp (fun hs_=>Or.elim hs_ (fun e_=>(fun e_=>(Kd.R_ne HO_256000.out BK255.out (by decide)) e_) e_) (fun e_=>(fun e_=>(Kd.R_ne HO_256001.out BK255.out (by decide)) e_) e_)));replace BK263:=zm (blk_kept (zb BK263.out) hkp (fun hs_=>Or.elim hs_ (fun e_=>(fun e_=>(Kd.R_ne HO_256000.out BK263.out (by decide)) e_) e_) (fun e_=>(fun e_=>(Kd.R_ne HO_256001.out BK263.out (by decide)) e_) e_)));replace HO_256000:=zm (Kd.R_reok rfl hy0 (fun k_ e_=>HO_256000.out.1 k_ e_));replace HO_256001:=zm (Kd.R_reok rfl hy1 (fun k_ e_=>HO_256001.out.1 k_ e_));replace HO267:=zm (Kd.R_mono (ok':=fun k_=>zx (sv Ao43 t234 co43) k_∧zx (sv Ao45 t237 co45) k_∧zx (sv Ao51 t242 co51) k_∧zx (sv Ao56 t245 co56) k_∧zx (sv Ao61 t249 co61) k_∧zx (sv Ao67 t252 co67) k_∧zx (sv Ao73 t256 co73) k_∧zx (sv Ao80 t259 co80) k_∧zx (sv Ao120 t268 co120) k_∧zx (sv Ao124 t272 co124) k_∧zx (sv Ao125 t275 co125) k_) (Kd.R_keptB (HO267.out) hkp (fun k_ hk_ hs_=>Or.elim hs_ (fun e_=>(hk_.2.2.2.2.1) e_) (fun e_=>(hk_.2.2.2.2.2.1) e_))) (fun k_ hk_=>⟨hk_.1.1,hk_.1.2.1,hk_.1.2.2.1,hk_.1.2.2.2.1,hk_.1.2.2.2.2.1,hk_.1.2.2.2.2.2.1,hk_.1.2.2.2.2.2.2.1,hk_.1.2.2.2.2.2.2.2.1,hk_.1.2.2.2.2.2.2.2.2.1,hk_.1.2.2.2.2.2.2.2.2.2.1,hk_.1.2.2.2.2.2.2.2.2.2.2⟩));replace HO270:=zm (Kd.R_mono (ok':=fun k_=>zx (sv Ao43 t234 co43) k_∧zx (sv Ao45 t237 co45) k_∧zx (sv Ao51 t242 co51) k_∧zx (sv Ao56 t245 co56) k_∧zx (sv Ao61 t249 co61) k_∧zx (sv Ao67 t252 co67) k_∧zx (sv Ao73 t256 co73) k_∧zx (sv Ao80 t259 co80) k_∧zx (sv Ao119 t265 co119) k_∧zx (sv Ao124 t272 co124) k_∧zx (sv Ao125 t275 co125) k_) (Kd.R_keptB (HO270.out) hkp (fun k_ hk_ hs_=>Or.elim hs_ (fun e_=>(hk_.2.2.2.2.1) e_) (fun e_=>(hk_.2.2.2.2.2.1) e_))) (fun k_ hk_=>⟨hk_.1.1,hk_.1.2.1,hk_.1.2.2.1,hk_.1.2.2.2.1,hk_.1.2.2.2.2.1,hk_.1.2.2.2.2.2.1,hk_.1.2.2.2.2.2.2.1,hk_.1.2.2.2.2.2.2.2.1,hk_.1.2.2.2.2.2.2.2.2.1,hk_.1.2.2.2.2.2.2.2.2.2.1,hk_.1.2.2.2.2.2.2.2.2.2.2⟩));replace HO274:=zm (Kd.R_mono (ok':=fun k_=>zx (sv Ao43 t234 co43) k_∧zx (sv Ao45 t237 co45) k_∧zx (sv Ao51 t242 co51) k_∧zx (sv Ao56 t245 co56) k_∧zx (sv Ao61 t249 co61) k_∧zx (sv Ao67 t252 co67) k_∧zx (sv Ao73 t256 co73) k_∧zx (sv Ao80 t259 co80) k_∧zx (sv Ao119 t265 co119) k_∧zx (sv Ao120 t268 co120) k_∧zx (sv Ao125 t275 co125) k_) (Kd.R_keptB (HO274.out) hkp (fun k_ hk_ hs_=>Or.elim hs_ (fun e_=>(hk_.2.2.2.2.1) e_) (fun e_=>(hk_.2.2.2.2.2.1) e_))) (fun k_ hk_=>⟨hk_.1.1,hk_.1.2.1,hk_.1.2.2.1,hk_.1.2.2.2.1,hk_.1.2.2.2.2.1,hk_.1.2.2.2.2.2.1,hk_.1.2.2.2.2.2.2.1,hk_.1.2.2.2.2.2.2.2.1,hk_.1.2.2.2.2.2.2.2.2.1,hk_.1.2.2.2.2.2.2.2.2.2.1,hk_.1.2.2.2.2.2.2.2.2.2.2⟩));replace HO277:=zm (Kd.R_mono (ok':=fun k_=>zx (sv Ao43 t234 co43) k_∧zx (sv Ao45 t237 co45) k_∧zx (sv Ao51 t242 co51) k_∧zx (sv Ao56 t245 co56) k_∧zx (sv Ao61 t249 co61) k_∧zx (sv Ao67 t252 co67) k_∧zx (sv Ao73 t256 co73) k_∧zx (sv Ao80 t259 co80) k_∧zx (sv Ao119 t265 co119) k_∧zx (sv Ao120 t268 co120) k_∧zx (sv Ao124 t272 co124) k_) (Kd.R_keptB (HO277.out) hkp (fun k_ hk_ hs_=>Or.elim hs_ (fun e_=>(hk_.2.2.2.2.1) e_) (fun e_=>(hk_.2.2.2.2.2.1) e_))) (fun k_ hk_=>⟨hk_.1.1,hk_.1.2.1,hk_.1.2.2.1,hk_.1.2.2.2.1,hk_.1.2.2.2.2.1,hk_.1.2.2.2.2.2.1,hk_.1.2.2.2.2.2.2.1,hk_.1.2.2.2.2.2.2.2.1,hk_.1.2.2.2.2.2.2.2.2.1,hk_.1.2.2.2.2.2.2.2.2.2.1,hk_.1.2.2.2.2.2.2.2.2.2.2⟩));replace HB:=zm (hb);(try clear hb hkp hy0 hy1)))
        (try simp only [Act.put,List.setIfInBounds_toArray,List.set_cons_zero,List.set_cons_succ])
        go_cut [82] (fun v82 wc=>∃ (kq:Nat) (x82_115:Bool),v82 = .bool x82_115∧Aside0 (laws_FnExactCompose.j1 kq t240 x82_115 l0_0 l0_1 l1_0 l1_1 t234 t237 t256 t259 = some true)∧Aside0 (kq≤kj24)∧Aside0 (Kd.R (Kd.int .i64) 3 wc w.heap.size (fun k_=>zx (sv Ao45 t237 co45) k_∧zx (sv Ao51 t242 co51) k_∧zx (sv Ao56 t245 co56) k_∧zx (sv Ao61 t249 co61) k_∧zx (sv Ao67 t252 co67) k_∧zx (sv Ao73 t256 co73) k_∧zx (sv Ao80 t259 co80) k_) (.slice Ao43 t234.length co43) t234)∧Aside0 (Kd.R (Kd.int .i64) 3 wc w.heap.size (fun k_=>zx (sv Ao43 t234 co43) k_∧zx (sv Ao51 t242 co51) k_∧zx (sv Ao56 t245 co56) k_∧zx (sv Ao61 t249 co61) k_∧zx (sv Ao67 t252 co67) k_∧zx (sv Ao73 t256 co73) k_∧zx (sv Ao80 t259 co80) k_) (.slice Ao45 t237.length co45) t237)∧Aside0 (Kd.R (Kd.int .i64) 3 wc w.heap.size (fun k_=>zx (sv Ao43 t234 co43) k_∧zx (sv Ao45 t237 co45) k_∧zx (sv Ao56 t245 co56) k_∧zx (sv Ao61 t249 co61) k_∧zx (sv Ao67 t252 co67) k_∧zx (sv Ao73 t256 co73) k_∧zx (sv Ao80 t259 co80) k_) (.slice Ao51 t242.length co51) t280)∧Aside0 (Kd.R (Kd.int .i64) 3 wc w.heap.size (fun k_=>zx (sv Ao43 t234 co43) k_∧zx (sv Ao45 t237 co45) k_∧zx (sv Ao51 t242 co51) k_∧zx (sv Ao61 t249 co61) k_∧zx (sv Ao67 t252 co67) k_∧zx (sv Ao73 t256 co73) k_∧zx (sv Ao80 t259 co80) k_) (.slice Ao56 t245.length co56) t281)∧Aside0 (Kd.R (Kd.int .i64) 3 wc w.heap.size (fun k_=>zx (sv Ao43 t234 co43) k_∧zx (sv Ao45 t237 co45) k_∧zx (sv Ao51 t242 co51) k_∧zx (sv Ao56 t245 co56) k_∧zx (sv Ao67 t252 co67) k_∧zx (sv Ao73 t256 co73) k_∧zx (sv Ao80 t259 co80) k_) (.slice Ao61 t249.length co61) t283)∧Aside0 (Kd.R (Kd.int .i64) 3 wc w.heap.size (fun k_=>zx (sv Ao43 t234 co43) k_∧zx (sv Ao45 t237 co45) k_∧zx (sv Ao51 t242 co51) k_∧zx (sv Ao56 t245 co56) k_∧zx (sv Ao61 t249 co61) k_∧zx (sv Ao73 t256 co73) k_∧zx (sv Ao80 t259 co80) k_) (.slice Ao67 t252.length co67) t284)∧Aside0 (Kd.R (Kd.int .i64) 3 wc w.heap.size (fun k_=>zx (sv Ao43 t234 co43) k_∧zx (sv Ao45 t237 co45) k_∧zx (sv Ao51 t242 co51) k_∧zx (sv Ao56 t245 co56) k_∧zx (sv Ao61 t249 co61) k_∧zx (sv Ao67 t252 co67) k_∧zx (sv Ao80 t259 co80) k_) (.slice Ao73 t256.length co73) t256)∧Aside0 (Kd.R (Kd.int .i64) 3 wc w.heap.size (fun k_=>zx (sv Ao43 t234 co43) k_∧zx (sv Ao45 t237 co45) k_∧zx (sv Ao51 t242 co51) k_∧zx (sv Ao56 t245 co56) k_∧zx (sv Ao61 t249 co61) k_∧zx (sv Ao67 t252 co67) k_∧zx (sv Ao73 t256 co73) k_) (.slice Ao80 t259.length co80) t259)∧Aside0 (wc.heap[gb218]? = some (.cells #[(.slice A0_0 l0_0.length c0_0),(.slice A0_1 l0_1.length c0_1)] 47 (0,0)))∧Aside0 (wc.heap[gb219]? = some (.cells #[(.slice A1_0 l1_0.length c1_0),(.slice A1_1 l1_1.length c1_1)] 47 (0,0)))∧Aside0 (wc.heap[gb241]? = some (.cells #[(.slice Ao43 t234.length co43),(.slice Ao45 t237.length co45)] 49 (0,0)))∧Aside0 (wc.heap[gb248]? = some (.cells #[(.slice Ao51 t242.length co51),(.slice Ao56 t245.length co56)] 49 (0,0)))∧Aside0 (wc.heap[gb255]? = some (.cells #[(.slice Ao61 t249.length co61),(.slice Ao67 t252.length co67)] 49 (0,0)))∧Aside0 (wc.heap[gb263]? = some (.cells #[(.slice Ao73 t256.length co73),(.slice Ao80 t259.length co80)] 49 (0,0)))∧Aside0 (Below w.heap.size w wc))
        case first =>
         have H:=HC116.out
         clear HC116
         by_cases c140:t282 < 0
         ·rw [if_pos c140] at H
          have c140b0:decide (t282 < 0) = true:=decide_eq_true c140
          clear c140
          (first|rw [c140b0]|(simp only [i64_w,i32_w];rw [c140b0])|skip)
          have H':=Aside0.mk H
          clear H
          go_wp2
          go_meet
          case rel=>exact ⟨_,(true),(by first|rfl|(simp;done)|(simp [*];done)),H',⟨by have:=HJ24.out;first|omega|exact Nat.le_refl _⟩,⟨zr (Kd.R_mono HO_242000.out (fun _ hk=>⟨hk.1,hk.2.1,hk.2.2.1,hk.2.2.2.1,hk.2.2.2.2.1,hk.2.2.2.2.2.1,hk.2.2.2.2.2.2.1⟩))⟩,⟨zr (Kd.R_mono HO_242001.out (fun _ hk=>⟨hk.1,hk.2.1,hk.2.2.1,hk.2.2.2.1,hk.2.2.2.2.1,hk.2.2.2.2.2.1,hk.2.2.2.2.2.2.1⟩))⟩,⟨zr (Kd.R_mono HO_249000.out (fun _ hk=>⟨hk.1,hk.2.1,hk.2.2.1,hk.2.2.2.1,hk.2.2.2.2.1,hk.2.2.2.2.2.1,hk.2.2.2.2.2.2.1⟩))⟩,⟨zr (Kd.R_mono HO_249001.out (fun _ hk=>⟨hk.1,hk.2.1,hk.2.2.1,hk.2.2.2.1,hk.2.2.2.2.1,hk.2.2.2.2.2.1,hk.2.2.2.2.2.2.1⟩))⟩,⟨zr (Kd.R_mono HO_256000.out (fun _ hk=>⟨hk.1,hk.2.1,hk.2.2.1,hk.2.2.2.1,hk.2.2.2.2.1,hk.2.2.2.2.2.1,hk.2.2.2.2.2.2.1⟩))⟩,⟨zr (Kd.R_mono HO_256001.out (fun _ hk=>⟨hk.1,hk.2.1,hk.2.2.1,hk.2.2.2.1,hk.2.2.2.2.1,hk.2.2.2.2.2.1,hk.2.2.2.2.2.2.1⟩))⟩,⟨zr (Kd.R_mono HO_264000.out (fun _ hk=>⟨hk.1,hk.2.1,hk.2.2.1,hk.2.2.2.1,hk.2.2.2.2.1,hk.2.2.2.2.2.1,hk.2.2.2.2.2.2.1⟩))⟩,⟨zr (Kd.R_mono HO_264001.out (fun _ hk=>⟨hk.1,hk.2.1,hk.2.2.1,hk.2.2.2.1,hk.2.2.2.2.1,hk.2.2.2.2.2.1,hk.2.2.2.2.2.2.1⟩))⟩,⟨zb BK218.out⟩,⟨zb BK219.out⟩,⟨zb BK241.out⟩,⟨zb BK248.out⟩,⟨zb BK255.out⟩,⟨zb BK263.out⟩,⟨zl⟩⟩
         ·rw [if_neg c140] at H
          have c140b0:decide (t282 < 0) = false:=decide_eq_false c140
          clear c140
          (first|rw [c140b0]|(simp only [i64_w,i32_w];rw [c140b0])|skip)
          replace H:=Option.bind_eq_some_iff.mp H
          obtain ⟨t285,A1410,H⟩:=H
          replace H:(if t285 = true then (laws_FnExactCompose.j1 kj24 t240 (t262 != t240) l0_0 l0_1 l1_0 l1_1 t234 t237 t256 t259) else (laws_FnExactCompose.j1 kj24 t240 true l0_0 l0_1 l1_0 l1_1 t234 t237 t256 t259)) = some true:=H
          have A141:=Aside0.mk A1410
          clear A1410
          by_cases c142:t285 = true
          ·subst c142
           have H1:(laws_FnExactCompose.j1 kj24 t240 (t262 != t240) l0_0 l0_1 l1_0 l1_1 t234 t237 t256 t259) = some true:=by first|with_reducible rfl|(rw [if_pos rfl] at H;exact H)
           clear H
           have H:=H1
           clear H1
           have H':=Aside0.mk H
           clear H
           have hnb143:=NB263_218.out
           have hnc143:=NB218_263.out
           have hnb144:=NB263_219.out
           have hnc144:=NB219_263.out
           have hnb145:=NB263_241.out
           have hnc145:=NB241_263.out
           have hnb146:=NB263_248.out
           have hnc146:=NB248_263.out
           have hnb147:=NB263_255.out
           have hnc147:=NB255_263.out
           have hcz148_0:w139.cell? ⟨gb263,0,none⟩ = some (.slice Ao73 t256.length co73):=zcl BK263.out 0
           have hcz148_1:w139.cell? ⟨gb263,1,none⟩ = some (.slice Ao80 t259.length co80):=zcl BK263.out 1
           have hfz148_0:=blk_frozen BK263.out 0
           have hfz148_1:=blk_frozen BK263.out 1
           have hnb149:=NB241_218.out
           have hnc149:=NB218_241.out
           have hnb150:=NB241_219.out
           have hnc150:=NB219_241.out
           have hnb151:=NB241_248.out
           have hnc151:=NB248_241.out
           have hnb152:=NB241_255.out
           have hnc152:=NB255_241.out
           have hcz153_0:w139.cell? ⟨gb241,0,none⟩ = some (.slice Ao43 t234.length co43):=zcl BK241.out 0
           have hcz153_1:w139.cell? ⟨gb241,1,none⟩ = some (.slice Ao45 t237.length co45):=zcl BK241.out 1
           have hfz153_0:=blk_frozen BK241.out 0
           have hfz153_1:=blk_frozen BK241.out 1
           go_wp2_with (first|(go_at_call 27;(with_reducible refine (laws_eqSubstitution.calls kj24 _ _ t256 _ _ t259 _ _ t234 _ _ t237 true _ ?side1 ?side2 ?side3 ?side4 ?side5 ?side6 ?side7 ?side8 A141.out).mono ?_);(case side1=>exact zk HO_264000.out);(case side2=>exact (Kd.R_reads' HO_264000.out).2.1);(case side3=>exact zk HO_264001.out);(case side4=>exact (Kd.R_reads' HO_264001.out).2.1);(case side5=>exact zk HO_242000.out);(case side6=>exact (Kd.R_reads' HO_242000.out).2.1);(case side7=>exact zk HO_242001.out);(case side8=>exact (Kd.R_reads' HO_242001.out).2.1);rintro e w154 ⟨rfl,hb⟩;have n0_:=Aside0.mk (Kd.R_below (zr HO_242000.out) hb);have n1_:=Aside0.mk (Kd.R_below (zr HO_242001.out) hb);have n2_:=Aside0.mk (Kd.R_below (zr HO_249000.out) hb);have n3_:=Aside0.mk (Kd.R_below (zr HO_249001.out) hb);have n4_:=Aside0.mk (Kd.R_below (zr HO_256000.out) hb);have n5_:=Aside0.mk (Kd.R_below (zr HO_256001.out) hb);have n6_:=Aside0.mk (Kd.R_below (zr HO_264000.out) hb);have n7_:=Aside0.mk (Kd.R_below (zr HO_264001.out) hb);have n8_:=Aside0.mk (Kd.R_below (zr HO267.out) hb);have n9_:=Aside0.mk (Kd.R_below (zr HO270.out) hb);have n10_:=Aside0.mk (Kd.R_below (zr HO274.out) hb);have n11_:=Aside0.mk (Kd.R_below (zr HO277.out) hb);have n12_:=Aside0.mk (blk_below (zb BK218.out) hb);have n13_:=Aside0.mk (blk_below (zb BK219.out) hb);have n14_:=Aside0.mk (blk_below (zb BK241.out) hb);have n15_:=Aside0.mk (blk_below (zb BK248.out) hb);have n16_:=Aside0.mk (blk_below (zb BK255.out) hb);have n17_:=Aside0.mk (blk_below (zb BK263.out) hb);have n18_:=Aside0.mk (below_step zl hb);clear HO_242000;clear HO_242001;clear HO_249000;clear HO_249001;clear HO_256000;clear HO_256001;clear HO_264000;clear HO_264001;clear HO267;clear HO270;clear HO274;clear HO277;clear BK218;clear BK219;clear BK241;clear BK248;clear BK255;clear BK263;clear HB;have HO_242000:=n0_;have HO_242001:=n1_;have HO_249000:=n2_;have HO_249001:=n3_;have HO_256000:=n4_;have HO_256001:=n5_;have HO_264000:=n6_;have HO_264001:=n7_;have HO267:=n8_;have HO270:=n9_;have HO274:=n10_;have HO277:=n11_;have BK218:=n12_;have BK219:=n13_;have BK241:=n14_;have BK248:=n15_;have BK255:=n16_;have BK263:=n17_;have HB:=n18_;clear n0_ n1_ n2_ n3_ n4_ n5_ n6_ n7_ n8_ n9_ n10_ n11_ n12_ n13_ n14_ n15_ n16_ n17_ n18_;(try clear hb)))
           go_meet
           case rel=>exact ⟨_,((t262 != t240)),(by first|rfl|(simp;done)|(simp [*];done)),H',⟨by have:=HJ24.out;first|omega|exact Nat.le_refl _⟩,⟨zr (Kd.R_mono HO_242000.out (fun _ hk=>⟨hk.1,hk.2.1,hk.2.2.1,hk.2.2.2.1,hk.2.2.2.2.1,hk.2.2.2.2.2.1,hk.2.2.2.2.2.2.1⟩))⟩,⟨zr (Kd.R_mono HO_242001.out (fun _ hk=>⟨hk.1,hk.2.1,hk.2.2.1,hk.2.2.2.1,hk.2.2.2.2.1,hk.2.2.2.2.2.1,hk.2.2.2.2.2.2.1⟩))⟩,⟨zr (Kd.R_mono HO_249000.out (fun _ hk=>⟨hk.1,hk.2.1,hk.2.2.1,hk.2.2.2.1,hk.2.2.2.2.1,hk.2.2.2.2.2.1,hk.2.2.2.2.2.2.1⟩))⟩,⟨zr (Kd.R_mono HO_249001.out (fun _ hk=>⟨hk.1,hk.2.1,hk.2.2.1,hk.2.2.2.1,hk.2.2.2.2.1,hk.2.2.2.2.2.1,hk.2.2.2.2.2.2.1⟩))⟩,⟨zr (Kd.R_mono HO_256000.out (fun _ hk=>⟨hk.1,hk.2.1,hk.2.2.1,hk.2.2.2.1,hk.2.2.2.2.1,hk.2.2.2.2.2.1,hk.2.2.2.2.2.2.1⟩))⟩,⟨zr (Kd.R_mono HO_256001.out (fun _ hk=>⟨hk.1,hk.2.1,hk.2.2.1,hk.2.2.2.1,hk.2.2.2.2.1,hk.2.2.2.2.2.1,hk.2.2.2.2.2.2.1⟩))⟩,⟨zr (Kd.R_mono HO_264000.out (fun _ hk=>⟨hk.1,hk.2.1,hk.2.2.1,hk.2.2.2.1,hk.2.2.2.2.1,hk.2.2.2.2.2.1,hk.2.2.2.2.2.2.1⟩))⟩,⟨zr (Kd.R_mono HO_264001.out (fun _ hk=>⟨hk.1,hk.2.1,hk.2.2.1,hk.2.2.2.1,hk.2.2.2.2.1,hk.2.2.2.2.2.1,hk.2.2.2.2.2.2.1⟩))⟩,⟨zb BK218.out⟩,⟨zb BK219.out⟩,⟨zb BK241.out⟩,⟨zb BK248.out⟩,⟨zb BK255.out⟩,⟨zb BK263.out⟩,⟨zl⟩⟩
          ·replace c142:=Bool.eq_false_iff.mpr c142
           subst c142
           have H1:(laws_FnExactCompose.j1 kj24 t240 true l0_0 l0_1 l1_0 l1_1 t234 t237 t256 t259) = some true:=by first|with_reducible rfl|(rw [if_neg (show ¬ (false = true) by decide)] at H;exact H)
           clear H
           have H:=H1
           clear H1
           have H':=Aside0.mk H
           clear H
           have hnb155:=NB263_218.out
           have hnc155:=NB218_263.out
           have hnb156:=NB263_219.out
           have hnc156:=NB219_263.out
           have hnb157:=NB263_241.out
           have hnc157:=NB241_263.out
           have hnb158:=NB263_248.out
           have hnc158:=NB248_263.out
           have hnb159:=NB263_255.out
           have hnc159:=NB255_263.out
           have hcz160_0:w139.cell? ⟨gb263,0,none⟩ = some (.slice Ao73 t256.length co73):=zcl BK263.out 0
           have hcz160_1:w139.cell? ⟨gb263,1,none⟩ = some (.slice Ao80 t259.length co80):=zcl BK263.out 1
           have hfz160_0:=blk_frozen BK263.out 0
           have hfz160_1:=blk_frozen BK263.out 1
           have hnb161:=NB241_218.out
           have hnc161:=NB218_241.out
           have hnb162:=NB241_219.out
           have hnc162:=NB219_241.out
           have hnb163:=NB241_248.out
           have hnc163:=NB248_241.out
           have hnb164:=NB241_255.out
           have hnc164:=NB255_241.out
           have hcz165_0:w139.cell? ⟨gb241,0,none⟩ = some (.slice Ao43 t234.length co43):=zcl BK241.out 0
           have hcz165_1:w139.cell? ⟨gb241,1,none⟩ = some (.slice Ao45 t237.length co45):=zcl BK241.out 1
           have hfz165_0:=blk_frozen BK241.out 0
           have hfz165_1:=blk_frozen BK241.out 1
           go_wp2_with (first|(go_at_call 27;(with_reducible refine (laws_eqSubstitution.calls kj24 _ _ t256 _ _ t259 _ _ t234 _ _ t237 false _ ?side1 ?side2 ?side3 ?side4 ?side5 ?side6 ?side7 ?side8 A141.out).mono ?_);(case side1=>exact zk HO_264000.out);(case side2=>exact (Kd.R_reads' HO_264000.out).2.1);(case side3=>exact zk HO_264001.out);(case side4=>exact (Kd.R_reads' HO_264001.out).2.1);(case side5=>exact zk HO_242000.out);(case side6=>exact (Kd.R_reads' HO_242000.out).2.1);(case side7=>exact zk HO_242001.out);(case side8=>exact (Kd.R_reads' HO_242001.out).2.1);rintro e w166 ⟨rfl,hb⟩;have n0_:=Aside0.mk (Kd.R_below (zr HO_242000.out) hb);have n1_:=Aside0.mk (Kd.R_below (zr HO_242001.out) hb);have n2_:=Aside0.mk (Kd.R_below (zr HO_249000.out) hb);have n3_:=Aside0.mk (Kd.R_below (zr HO_249001.out) hb);have n4_:=Aside0.mk (Kd.R_below (zr HO_256000.out) hb);have n5_:=Aside0.mk (Kd.R_below (zr HO_256001.out) hb);have n6_:=Aside0.mk (Kd.R_below (zr HO_264000.out) hb);have n7_:=Aside0.mk (Kd.R_below (zr HO_264001.out) hb);have n8_:=Aside0.mk (Kd.R_below (zr HO267.out) hb);have n9_:=Aside0.mk (Kd.R_below (zr HO270.out) hb);have n10_:=Aside0.mk (Kd.R_below (zr HO274.out) hb);have n11_:=Aside0.mk (Kd.R_below (zr HO277.out) hb);have n12_:=Aside0.mk (blk_below (zb BK218.out) hb);have n13_:=Aside0.mk (blk_below (zb BK219.out) hb);have n14_:=Aside0.mk (blk_below (zb BK241.out) hb);have n15_:=Aside0.mk (blk_below (zb BK248.out) hb);have n16_:=Aside0.mk (blk_below (zb BK255.out) hb);have n17_:=Aside0.mk (blk_below (zb BK263.out) hb);have n18_:=Aside0.mk (below_step zl hb);clear HO_242000;clear HO_242001;clear HO_249000;clear HO_249001;clear HO_256000;clear HO_256001;clear HO_264000;clear HO_264001;clear HO267;clear HO270;clear HO274;clear HO277;clear BK218;clear BK219;clear BK241;clear BK248;clear BK255;clear BK263;clear HB;have HO_242000:=n0_;have HO_242001:=n1_;have HO_249000:=n2_;have HO_249001:=n3_;have HO_256000:=n4_;have HO_256001:=n5_;have HO_264000:=n6_;have HO_264001:=n7_;have HO267:=n8_;have HO270:=n9_;have HO274:=n10_;have HO277:=n11_;have BK218:=n12_;have BK219:=n13_;have BK241:=n14_;have BK248:=n15_;have BK255:=n16_;have BK263:=n17_;have HB:=n18_;clear n0_ n1_ n2_ n3_ n4_ n5_ n6_ n7_ n8_ n9_ n10_ n11_ n12_ n13_ n14_ n15_ n16_ n17_ n18_;(try clear hb)))
           go_meet
           case rel=>exact ⟨_,(true),(by first|rfl|(simp;done)|(simp [*];done)),H',⟨by have:=HJ24.out;first|omega|exact Nat.le_refl _⟩,⟨zr (Kd.R_mono HO_242000.out (fun _ hk=>⟨hk.1,hk.2.1,hk.2.2.1,hk.2.2.2.1,hk.2.2.2.2.1,hk.2.2.2.2.2.1,hk.2.2.2.2.2.2.1⟩))⟩,⟨zr (Kd.R_mono HO_242001.out (fun _ hk=>⟨hk.1,hk.2.1,hk.2.2.1,hk.2.2.2.1,hk.2.2.2.2.1,hk.2.2.2.2.2.1,hk.2.2.2.2.2.2.1⟩))⟩,⟨zr (Kd.R_mono HO_249000.out (fun _ hk=>⟨hk.1,hk.2.1,hk.2.2.1,hk.2.2.2.1,hk.2.2.2.2.1,hk.2.2.2.2.2.1,hk.2.2.2.2.2.2.1⟩))⟩,⟨zr (Kd.R_mono HO_249001.out (fun _ hk=>⟨hk.1,hk.2.1,hk.2.2.1,hk.2.2.2.1,hk.2.2.2.2.1,hk.2.2.2.2.2.1,hk.2.2.2.2.2.2.1⟩))⟩,⟨zr (Kd.R_mono HO_256000.out (fun _ hk=>⟨hk.1,hk.2.1,hk.2.2.1,hk.2.2.2.1,hk.2.2.2.2.1,hk.2.2.2.2.2.1,hk.2.2.2.2.2.2.1⟩))⟩,⟨zr (Kd.R_mono HO_256001.out (fun _ hk=>⟨hk.1,hk.2.1,hk.2.2.1,hk.2.2.2.1,hk.2.2.2.2.1,hk.2.2.2.2.2.1,hk.2.2.2.2.2.2.1⟩))⟩,⟨zr (Kd.R_mono HO_264000.out (fun _ hk=>⟨hk.1,hk.2.1,hk.2.2.1,hk.2.2.2.1,hk.2.2.2.2.1,hk.2.2.2.2.2.1,hk.2.2.2.2.2.2.1⟩))⟩,⟨zr (Kd.R_mono HO_264001.out (fun _ hk=>⟨hk.1,hk.2.1,hk.2.2.1,hk.2.2.2.1,hk.2.2.2.2.1,hk.2.2.2.2.2.1,hk.2.2.2.2.2.2.1⟩))⟩,⟨zb BK218.out⟩,⟨zb BK219.out⟩,⟨zb BK241.out⟩,⟨zb BK248.out⟩,⟨zb BK255.out⟩,⟨zb BK263.out⟩,⟨zl⟩⟩
        case rest =>
         clear HC116
         obtain ⟨kq,x82_115,rfl,HA,HJ115,HO_242000,HO_242001,HO_249000,HO_249001,HO_256000,HO_256001,HO_264000,HO_264001,BK218,BK219,BK241,BK248,BK255,BK263,HB⟩:=hcut
         have hl249000_115:=(Kd.R_reads' HO_249000.out).1
         rw [hl249000_115] at HO_249000
         (try simp only [hl249000_115])
         (try simp only [sv,hl249000_115] at BK218 BK219 BK241 BK248 BK255 BK263 HO_242000 HO_242001 HO_249001 HO_256000 HO_256001 HO_264000 HO_264001)
         have hl249001_115:=(Kd.R_reads' HO_249001.out).1
         rw [hl249001_115] at HO_249001
         (try simp only [hl249001_115])
         (try simp only [sv,hl249001_115] at BK218 BK219 BK241 BK248 BK255 BK263 HO_242000 HO_242001 HO_249000 HO_256000 HO_256001 HO_264000 HO_264001)
         have hl256000_115:=(Kd.R_reads' HO_256000.out).1
         rw [hl256000_115] at HO_256000
         (try simp only [hl256000_115])
         (try simp only [sv,hl256000_115] at BK218 BK219 BK241 BK248 BK255 BK263 HO_242000 HO_242001 HO_249000 HO_249001 HO_256001 HO_264000 HO_264001)
         have hl256001_115:=(Kd.R_reads' HO_256001.out).1
         rw [hl256001_115] at HO_256001
         (try simp only [hl256001_115])
         (try simp only [sv,hl256001_115] at BK218 BK219 BK241 BK248 BK255 BK263 HO_242000 HO_242001 HO_249000 HO_249001 HO_256000 HO_264000 HO_264001)
         cases kq with
         | zero => exact absurd HA.out (by simp [laws_FnExactCompose.j1])
         | succ kj115 =>
          have H:=HA.out
          clear HA
          simp only [laws_FnExactCompose.j1] at H
          by_cases c167:x82_115 = true
          ·subst c167
           have H1:(some false) = some true:=by first|with_reducible rfl|(rw [if_pos rfl] at H;exact H)
           clear H
           have H:=H1
           clear H1
           exact absurd H (by simp)
          ·replace c167:=Bool.eq_false_iff.mpr c167
           subst c167
           have H1:((laws_markSubstitution.f kj115 t256 t259 1).bind fun bt286=>((laws_heldSubstitution.f kj115 bt286.2.1 bt286.2.2 1).bind fun t289=>(if t289 < 0 then (some false) else (if t289 = bt286.1 then ((laws_toSubstitution.f kj115 l0_0 l0_1).bind fun bt290=>((laws_toSubstitution.f kj115 l1_0 l1_1).bind fun bt296=>((impl_Compose.f kj115 bt290.1 bt290.2 bt296.1 bt296.2).bind fun bt302=>((laws_eqSubstitution.f kj115 bt302.1 bt302.2.1 t234 t237).bind fun t310=>(if t310 = true then (laws_FnExactCompose.j2 kj115 bt286.1 (bt302.2.2 != t240) bt286.2.1 bt286.2.2) else (laws_FnExactCompose.j2 kj115 bt286.1 true bt286.2.1 bt286.2.2)))))) else (some false))))) = some true:=by first|with_reducible rfl|(rw [if_neg (show ¬ (false = true) by decide)] at H;exact H)
           clear H
           have H:=H1
           clear H1
           replace H:=Option.bind_eq_some_iff.mp H
           obtain ⟨⟨t286,t287,t288⟩,A1680,H⟩:=H
           try dsimp only at H
           have A168:=Aside0.mk A1680
           clear A1680
           replace H:=Option.bind_eq_some_iff.mp H
           obtain ⟨t289,A1690,H⟩:=H
           try dsimp only at H
           have A169:=Aside0.mk A1690
           clear A1690
           by_cases c170:t289 < 0
           ·rw [if_pos c170] at H
            have c170b0:decide (t289 < 0) = true:=decide_eq_true c170
            clear c170
            exact absurd H (by simp)
           ·rw [if_neg c170] at H
            have c170b0:decide (t289 < 0) = false:=decide_eq_false c170
            clear c170
            by_cases c171:t289 = t286
            ·rw [if_pos c171] at H
             have c171b0:(t289 == t286) = true:=beq_iff_eq.mpr c171
             have c171b1:(t289 != t286) = false:=bne_eq_false_iff_eq.mpr c171
             clear c171
             replace H:=Option.bind_eq_some_iff.mp H
             obtain ⟨⟨t290,t293⟩,A1720,H⟩:=H
             replace H:((laws_toSubstitution.f kj115 l1_0 l1_1).bind fun bt296=>((impl_Compose.f kj115 t290 t293 bt296.1 bt296.2).bind fun bt302=>((laws_eqSubstitution.f kj115 bt302.1 bt302.2.1 t234 t237).bind fun t310=>(if t310 = true then (laws_FnExactCompose.j2 kj115 t286 (bt302.2.2 != t240) t287 t288) else (laws_FnExactCompose.j2 kj115 t286 true t287 t288))))) = some true:=H
             have A172:=Aside0.mk A1720
             clear A1720
             replace H:=Option.bind_eq_some_iff.mp H
             obtain ⟨⟨t296,t299⟩,A1730,H⟩:=H
             replace H:((impl_Compose.f kj115 t290 t293 t296 t299).bind fun bt302=>((laws_eqSubstitution.f kj115 bt302.1 bt302.2.1 t234 t237).bind fun t310=>(if t310 = true then (laws_FnExactCompose.j2 kj115 t286 (bt302.2.2 != t240) t287 t288) else (laws_FnExactCompose.j2 kj115 t286 true t287 t288)))) = some true:=H
             have A173:=Aside0.mk A1730
             clear A1730
             replace H:=Option.bind_eq_some_iff.mp H
             obtain ⟨⟨t302,t305,t308⟩,A1740,H⟩:=H
             replace H:((laws_eqSubstitution.f kj115 t302 t305 t234 t237).bind fun t310=>(if t310 = true then (laws_FnExactCompose.j2 kj115 t286 (t308 != t240) t287 t288) else (laws_FnExactCompose.j2 kj115 t286 true t287 t288))) = some true:=H
             have A174:=Aside0.mk A1740
             clear A1740
             have HC175:=Aside0.mk H
             clear H
             have hnb176:=NB263_218.out
             have hnc176:=NB218_263.out
             have hnb177:=NB263_219.out
             have hnc177:=NB219_263.out
             have hnb178:=NB263_241.out
             have hnc178:=NB241_263.out
             have hnb179:=NB263_248.out
             have hnc179:=NB248_263.out
             have hnb180:=NB263_255.out
             have hnc180:=NB255_263.out
             have hcz181_0:wc.cell? ⟨gb263,0,none⟩ = some (.slice Ao73 t256.length co73):=zcl BK263.out 0
             have hcz181_1:wc.cell? ⟨gb263,1,none⟩ = some (.slice Ao80 t259.length co80):=zcl BK263.out 1
             have hfz181_0:=blk_frozen BK263.out 0
             have hfz181_1:=blk_frozen BK263.out 1
             try go_wp2_with (first|((with_reducible refine gate_callee (f:=28) rfl ?_);refine zg (some 85) Try.func28 #[.agg #[.slice Ao73 t256.length co73,.slice Ao80 t259.length co80],.int .i64 1] ?_;(with_reducible refine (laws_markSubstitution.calls kj115 (fun k_=>some k_ = (.slice Ao73 t256.length co73:Value).ownBlock) (.slice Ao73 t256.length co73) t256 (fun k_=>some k_ = (.slice Ao80 t259.length co80:Value).ownBlock) (.slice Ao80 t259.length co80) t259 1 t286 t287 t288 w _ ?side1 ?side2 ?side3 ?side4 ?side5 A168.out).mono ?_);(case side1=>exact zl);(case side2=>exact Kd.R_tight rfl HO_264000.out);(case side3=>exact fun k_ e_=>(HO_264000.out.1 k_ e_.symm).2.2.2.2.2.2);(case side4=>exact Kd.R_tight rfl HO_264001.out);(case side5=>exact fun k_ e_=>(HO_264001.out.1 k_ e_.symm).2.2.2.2.2.2);rintro e w182 ⟨rfl,hy0,hy1,hb,hkp⟩;refine ⟨_,rfl,?_⟩;replace HO_242000:=zm (Kd.R_mono (ok':=fun k_=>zx (sv Ao45 t237 co45) k_∧zx (sv Ao51 t280 co51) k_∧zx (sv Ao56 t281 co56) k_∧zx (sv Ao61 t283 co61) k_∧zx (sv Ao67 t284 co67) k_∧zx (sv Ao73 t256 co73) k_∧zx (sv Ao80 t259 co80) k_) (Kd.R_keptB (HO_242000.out) hkp (fun k_ hk_ hs_=>Or.elim hs_ (fun e_=>(hk_.2.2.2.2.2.1) e_) (fun e_=>(hk_.2.2.2.2.2.2) e_))) (fun k_ hk_=>⟨hk_.1.1,hk_.1.2.1,hk_.1.2.2.1,hk_.1.2.2.2.1,hk_.1.2.2.2.2.1,hk_.1.2.2.2.2.2.1,hk_.1.2.2.2.2.2.2⟩));replace HO_242001:=zm (Kd.R_mono (ok':=fun k_=>zx (sv Ao43 t234 co43) k_∧zx (sv Ao51 t280 co51) k_∧zx (sv Ao56 t281 co56) k_∧zx (sv Ao61 t283 co61) k_∧zx (sv Ao67 t284 co67) k_∧zx (sv Ao73 t256 co73) k_∧zx (sv Ao80 t259 co80) k_) (Kd.R_keptB (HO_242001.out) hkp (fun k_ hk_ hs_=>Or.elim hs_ (fun e_=>(hk_.2.2.2.2.2.1) e_) (fun e_=>(hk_.2.2.2.2.2.2) e_))) (fun k_ hk_=>⟨hk_.1.1,hk_.1.2.1,hk_.1.2.2.1,hk_.1.2.2.2.1,hk_.1.2.2.2.2.1,hk_.1.2.2.2.2.2.1,hk_.1.2.2.2.2.2.2⟩));replace HO_249000:=zm (Kd.R_mono (ok':=fun k_=>zx (sv Ao43 t234 co43) k_∧zx (sv Ao45 t237 co45) k_∧zx (sv Ao56 t281 co56) k_∧zx (sv Ao61 t283 co61) k_∧zx (sv Ao67 t284 co67) k_∧zx (sv Ao73 t256 co73) k_∧zx (sv Ao80 t259 co80) k_) (Kd.R_keptB (HO_249000.out) hkp (fun k_ hk_ hs_=>Or.elim hs_ (fun e_=>(hk_.2.2.2.2.2.1) e_) (fun e_=>(hk_.2.2.2.2.2.2) e_))) (fun k_ hk_=>⟨hk_.1.1,hk_.1.2.1,hk_.1.2.2.1,hk_.1.2.2.2.1,hk_.1.2.2.2.2.1,hk_.1.2.2.2.2.2.1,hk_.1.2.2.2.2.2.2⟩));replace HO_249001:=zm (Kd.R_mono (ok':=fun k_=>zx (sv Ao43 t234 co43) k_∧zx (sv Ao45 t237 co45) k_∧zx (sv Ao51 t280 co51) k_∧zx (sv Ao61 t283 co61) k_∧zx (sv Ao67 t284 co67) k_∧zx (sv Ao73 t256 co73) k_∧zx (sv Ao80 t259 co80) k_) (Kd.R_keptB (HO_249001.out) hkp (fun k_ hk_ hs_=>Or.elim hs_ (fun e_=>(hk_.2.2.2.2.2.1) e_) (fun e_=>(hk_.2.2.2.2.2.2) e_))) (fun k_ hk_=>⟨hk_.1.1,hk_.1.2.1,hk_.1.2.2.1,hk_.1.2.2.2.1,hk_.1.2.2.2.2.1,hk_.1.2.2.2.2.2.1,hk_.1.2.2.2.2.2.2⟩));replace HO_256000:=zm (Kd.R_mono (ok':=fun k_=>zx (sv Ao43 t234 co43) k_∧zx (sv Ao45 t237 co45) k_∧zx (sv Ao51 t280 co51) k_∧zx (sv Ao56 t281 co56) k_∧zx (sv Ao67 t284 co67) k_∧zx (sv Ao73 t256 co73) k_∧zx (sv Ao80 t259 co80) k_) (Kd.R_keptB (HO_256000.out) hkp (fun k_ hk_ hs_=>Or.elim hs_ (fun e_=>(hk_.2.2.2.2.2.1) e_) (fun e_=>(hk_.2.2.2.2.2.2) e_))) (fun k_ hk_=>⟨hk_.1.1,hk_.1.2.1,hk_.1.2.2.1,hk_.1.2.2.2.1,hk_.1.2.2.2.2.1,hk_.1.2.2.2.2.2.1,hk_.1.2.2.2.2.2.2⟩));replace HO_256001:=zm (Kd.R_mono (ok':=fun k_=>zx (sv Ao43 t234 co43) k_∧zx (sv Ao45 t237 co45) k_∧zx (sv Ao51 t280 co51) k_∧zx (sv Ao56 t281 co56) k_∧zx (sv Ao61 t283 co61) k_∧zx (sv Ao73 t256 co73) k_∧zx (sv Ao80 t259 co80) k_) (Kd.R_keptB (HO_256001.out) hkp (fun k_ hk_ hs_=>Or.elim hs_ (fun e_=>(hk_.2.2.2.2.2.1) e_) (fun e_=>(hk_.2.2.2.2.2.2) e_))) (fun k_ hk_=>⟨hk_.1.1,hk_.1.2.1,hk_.1.2.2.1,hk_.1.2.2.2.1,hk_.1.2.2.2.2.1,hk_.1.2.2.2.2.2.1,hk_.1.2.2.2.2.2.2⟩));replace BK218:=zm (blk_kept (zb BK218.out) hkp (fun hs_=>Or.elim hs_ (fun e_=>(fun e_=>(Kd.R_ne HO_264000.out BK218.out (by decide)) e_) e_) (fun e_=>(fun e_=>(Kd.R_ne HO_264001.out BK218.out (by decide)) e_) e_)));replace BK219:=zm (blk_kept (zb BK219.out) hkp (fun hs_=>Or.elim hs_ (fun e_=>(fun e_=>(Kd.R_ne HO_264000.out BK219.out (by decide)) e_) e_) (fun e_=>(fun e_=>(Kd.R_ne HO_264001.out BK219.out (by decide)) e_) e_)));replace BK241:=zm (blk_kept (zb BK241.out) hkp (fun hs_=>Or.elim hs_ (fun e_=>(fun e_=>(Kd.R_ne HO_264000.out BK241.out (by decide)) e_) e_) (fun e_=>(fun e_=>(Kd.R_ne HO_264001.out BK241.out (by decide)) e_) e_)));replace BK248:=zm (blk_kept (zb BK248.out) hkp (fun hs_=>Or.elim hs_ (fun e_=>(fun e_=>(Kd.R_ne HO_264000.out BK248.out (by decide)) e_) e_) (fun e_=>(fun e_=>(Kd.R_ne HO_264001.out BK248.out (by decide)) e_) e_)));replace BK255:=zm (blk_kept (zb BK255.out) hkp (fun hs_=>Or.elim hs_ (fun e_=>(fun e_=>(Kd.R_ne HO_264000.out BK255.out (by decide)) e_) e_) (fun e_=>(fun e_=>(Kd.R_ne HO_264001.out BK255.out (by decide)) e_) e_)));replace BK263:=zm (blk_kept (zb BK263.out) hkp (fun hs_=>Or.elim hs_ (fun e_=>(fun e_=>(Kd.R_ne HO_264000.out BK263.out (by decide)) e_) e_) (fun e_=>(fun e_=>(Kd.R_ne HO_264001.out BK263.out (by decide)) e_) e_)));replace HO_264000:=zm (Kd.R_reok rfl hy0 (fun k_ e_=>HO_264000.out.1 k_ e_));replace HO_264001:=zm (Kd.R_reok rfl hy1 (fun k_ e_=>HO_264001.out.1 k_ e_));replace HB:=zm (hb);(try clear hb hkp hy0 hy1);have hcz183_0:w182.cell? ⟨gb263,0,none⟩ = some (.slice Ao73 t256.length co73):=zcl BK263.out 0;have hcz183_1:w182.cell? ⟨gb263,1,none⟩ = some (.slice Ao80 t259.length co80):=zcl BK263.out 1;have hfz183_0:=blk_frozen BK263.out 0;have hfz183_1:=blk_frozen BK263.out 1)|((with_reducible refine gate_callee (f:=29) rfl ?_);refine goesL_ (some 88) rfl rfl Try.func29 (by kernel_rfl) rfl #[.agg #[.slice Ao73 t287.length co73,.slice Ao80 t288.length co80],.int .i64 1] rfl (by (try simp only [List.map_toArray,List.map_cons,List.map_nil]);first|done|(rw [show t287.length = t256.length from (Kd.R_reads' HO_264000.out).1.symm,show t288.length = t259.length from (Kd.R_reads' HO_264001.out).1.symm] <;> rfl)|rfl|(simp only [List.length_drop,List.length_take];rfl)) ?_;(with_reducible refine (laws_heldSubstitution.calls kj115 _ _ t287 _ _ t288 1 t289 _ ?side1 ?side2 ?side3 ?side4 A169.out).mono ?_);(case side1=>exact zk HO_264000.out);(case side2=>rw [show t287.length = t256.length from (Kd.R_reads' HO_264000.out).1.symm];exact (Kd.R_reads' HO_264000.out).2.1);(case side3=>exact zk HO_264001.out);(case side4=>rw [show t288.length = t259.length from (Kd.R_reads' HO_264001.out).1.symm];exact (Kd.R_reads' HO_264001.out).2.1);rintro e w184 ⟨rfl,hb⟩;refine ⟨_,rfl,?_⟩;replace HO_242000:=zRb HO_242000 hb;replace HO_242001:=zRb HO_242001 hb;replace HO_249000:=zRb HO_249000 hb;replace HO_249001:=zRb HO_249001 hb;replace HO_256000:=zRb HO_256000 hb;replace HO_256001:=zRb HO_256001 hb;replace HO_264000:=zRb HO_264000 hb;replace HO_264001:=zRb HO_264001 hb;replace BK218:=zbk BK218 hb;replace BK219:=zbk BK219 hb;replace BK241:=zbk BK241 hb;replace BK248:=zbk BK248 hb;replace BK255:=zbk BK255 hb;replace BK263:=zbk BK263 hb;replace HB:=zm (below_step zl hb);(try clear hb)))
             replace HO_242000:=zm (Kd.R_drew HO_242000.out)
             replace HO_242001:=zm (Kd.R_drew HO_242001.out)
             replace HO_249000:=zm (Kd.R_drew HO_249000.out)
             replace HO_249001:=zm (Kd.R_drew HO_249001.out)
             replace HO_256000:=zm (Kd.R_drew HO_256000.out)
             replace HO_256001:=zm (Kd.R_drew HO_256001.out)
             replace HO_264000:=zm (Kd.R_drew HO_264000.out)
             replace HO_264001:=zm (Kd.R_drew HO_264001.out)
             replace BK218:=zm (blk_drew BK218.out)
             replace BK219:=zm (blk_drew BK219.out)
             replace BK241:=zm (blk_drew BK241.out)
             replace BK248:=zm (blk_drew BK248.out)
             replace BK255:=zm (blk_drew BK255.out)
             replace BK263:=zm (blk_drew BK263.out)
             replace HB:=zm (below_drew1 HB.out)
             refine start_ (n:=11) (S:=fun w'=>w'.cell? ⟨gb218,0,none⟩ = some (.slice A0_0 l0_0.length c0_0)∧w'.cell? ⟨gb218,1,none⟩ = some (.slice A0_1 l0_1.length c0_1)∧w'.cell? ⟨gb219,0,none⟩ = some (.slice A1_0 l1_0.length c1_0)∧w'.cell? ⟨gb219,1,none⟩ = some (.slice A1_1 l1_1.length c1_1)) (ds:=[]) #[false,false,false,false,false,false,false,false,false,false,false] (by kernel_rfl) rfl rfl ⟨zcl BK218.out 0,zcl BK218.out 1,zcl BK219.out 0,zcl BK219.out 1⟩ (fun hHeld=>?_);refine with_tabW laws_FnExactCompose.tab31 laws_FnExactCompose.bits31 (fun HT_ HW_=>?_)
             generalize w184.drew = w185 at HO_242000 HO_242001 HO_249000 HO_249001 HO_256000 HO_256001 HO_264000 HO_264001 BK218 BK219 BK241 BK248 BK255 BK263 HB hHeld ⊢
             refine take_ (i:=0) (N:=some 95) (v:=?_) (a':=?_) (zA 11 1) rfl rfl (take_ofW HT_.out HW_.out (by kernel_rfl)) (fun _ _ _ h=>h) (Or.inl ⟨by rfl,?_⟩) hHeld ?_ ?_
             rotate_left
             ·rintro w' ⟨s0,s1,s2,s3⟩
              go_simp
              with_reducible rfl
             rotate_left
             ·simp only [Act.put,List.setIfInBounds_toArray,List.set_cons_zero,List.set_cons_succ,i64_w,i32_w]
              rfl
             refine take_ (i:=2) (N:=some 97) (v:=?_) (a':=?_) (zA 11 5) rfl rfl (take_ofW HT_.out HW_.out (by kernel_rfl)) (fun _ _ _ h=>h) (Or.inl ⟨by rfl,?_⟩) hHeld ?_ ?_
             rotate_left
             ·rintro w' ⟨s0,s1,s2,s3⟩
              go_simp
              with_reducible rfl
             rotate_left
             ·simp only [Act.put,List.setIfInBounds_toArray,List.set_cons_zero,List.set_cons_succ,i64_w,i32_w]
              rfl
             refine join_ (σ:=Value × Value × Value × Value × Value × Value × Nat) 2 (zA 11 511) (fun s_=>[(96,.agg #[s_.1,s_.2.1]),(98,.agg #[s_.2.2.1,s_.2.2.2.1]),(99,.tuple #[.agg #[s_.2.2.2.2.1,s_.2.2.2.2.2.1],.bool t308]),(15,.pointer (some ⟨s_.2.2.2.2.2.2,0,none⟩)),(94,.tuple #[.agg #[s_.2.2.2.2.1,s_.2.2.2.2.2.1],.bool t308]),(100,.agg #[s_.2.2.2.2.1,s_.2.2.2.2.2.1]),(101,.bool t308)]) (fun s_ w'=>(w'.cell? ⟨gb218,0,none⟩ = some (.slice A0_0 l0_0.length c0_0)∧w'.cell? ⟨gb218,1,none⟩ = some (.slice A0_1 l0_1.length c0_1)∧w'.cell? ⟨gb219,0,none⟩ = some (.slice A1_0 l1_0.length c1_0)∧w'.cell? ⟨gb219,1,none⟩ = some (.slice A1_1 l1_1.length c1_1))∧(Kd.R (Kd.int .i64) 3 w' w.heap.size (fun k_=>zx (s_.2.1) k_∧zx (s_.2.2.1) k_∧zx (s_.2.2.2.1) k_∧zx (s_.2.2.2.2.1) k_∧zx (s_.2.2.2.2.2.1) k_∧zx (sv Ao43 t234 co43) k_∧zx (sv Ao45 t237 co45) k_∧zx (sv Ao51 t280 co51) k_∧zx (sv Ao56 t281 co56) k_∧zx (sv Ao61 t283 co61) k_∧zx (sv Ao67 t284 co67) k_∧zx (sv Ao73 t256 co73) k_∧zx (sv Ao80 t259 co80) k_) s_.1 t290)∧(Kd.R (Kd.int .i64) 3 w' w.heap.size (fun k_=>zx (s_.1) k_∧zx (s_.2.2.1) k_∧zx (s_.2.2.2.1) k_∧zx (s_.2.2.2.2.1) k_∧zx (s_.2.2.2.2.2.1) k_∧zx (sv Ao43 t234 co43) k_∧zx (sv Ao45 t237 co45) k_∧zx (sv Ao51 t280 co51) k_∧zx (sv Ao56 t281 co56) k_∧zx (sv Ao61 t283 co61) k_∧zx (sv Ao67 t284 co67) k_∧zx (sv Ao73 t256 co73) k_∧zx (sv Ao80 t259 co80) k_) s_.2.1 t293)∧(Kd.R (Kd.int .i64) 3 w' w.heap.size (fun k_=>zx (s_.1) k_∧zx (s_.2.1) k_∧zx (s_.2.2.2.1) k_∧zx (s_.2.2.2.2.1) k_∧zx (s_.2.2.2.2.2.1) k_∧zx (sv Ao43 t234 co43) k_∧zx (sv Ao45 t237 co45) k_∧zx (sv Ao51 t280 co51) k_∧zx (sv Ao56 t281 co56) k_∧zx (sv Ao61 t283 co61) k_∧zx (sv Ao67 t284 co67) k_∧zx (sv Ao73 t256 co73) k_∧zx (sv Ao80 t259 co80) k_) s_.2.2.1 t296)∧(Kd.R (Kd.int .i64) 3 w' w.heap.size (fun k_=>zx (s_.1) k_∧zx (s_.2.1) k_∧zx (s_.2.2.1) k_∧zx (s_.2.2.2.2.1) k_∧zx (s_.2.2.2.2.2.1) k_∧zx (sv Ao43 t234 co43) k_∧zx (sv Ao45 t237 co45) k_∧zx (sv Ao51 t280 co51) k_∧zx (sv Ao56 t281 co56) k_∧zx (sv Ao61 t283 co61) k_∧zx (sv Ao67 t284 co67) k_∧zx (sv Ao73 t256 co73) k_∧zx (sv Ao80 t259 co80) k_) s_.2.2.2.1 t299)∧(Kd.R (Kd.int .i64) 3 w' w.heap.size (fun k_=>zx (s_.1) k_∧zx (s_.2.1) k_∧zx (s_.2.2.1) k_∧zx (s_.2.2.2.1) k_∧zx (s_.2.2.2.2.2.1) k_∧zx (sv Ao43 t234 co43) k_∧zx (sv Ao45 t237 co45) k_∧zx (sv Ao51 t280 co51) k_∧zx (sv Ao56 t281 co56) k_∧zx (sv Ao61 t283 co61) k_∧zx (sv Ao67 t284 co67) k_∧zx (sv Ao73 t256 co73) k_∧zx (sv Ao80 t259 co80) k_) s_.2.2.2.2.1 t302)∧(Kd.R (Kd.int .i64) 3 w' w.heap.size (fun k_=>zx (s_.1) k_∧zx (s_.2.1) k_∧zx (s_.2.2.1) k_∧zx (s_.2.2.2.1) k_∧zx (s_.2.2.2.2.1) k_∧zx (sv Ao43 t234 co43) k_∧zx (sv Ao45 t237 co45) k_∧zx (sv Ao51 t280 co51) k_∧zx (sv Ao56 t281 co56) k_∧zx (sv Ao61 t283 co61) k_∧zx (sv Ao67 t284 co67) k_∧zx (sv Ao73 t256 co73) k_∧zx (sv Ao80 t259 co80) k_) s_.2.2.2.2.2.1 t305)∧(Kd.R (Kd.int .i64) 3 w' w.heap.size (fun k_=>zx (s_.1) k_∧zx (s_.2.1) k_∧zx (s_.2.2.1) k_∧zx (s_.2.2.2.1) k_∧zx (s_.2.2.2.2.1) k_∧zx (s_.2.2.2.2.2.1) k_∧zx (sv Ao45 t237 co45) k_∧zx (sv Ao51 t280 co51) k_∧zx (sv Ao56 t281 co56) k_∧zx (sv Ao61 t283 co61) k_∧zx (sv Ao67 t284 co67) k_∧zx (sv Ao73 t256 co73) k_∧zx (sv Ao80 t259 co80) k_) (.slice Ao43 t234.length co43) t234)∧(Kd.R (Kd.int .i64) 3 w' w.heap.size (fun k_=>zx (s_.1) k_∧zx (s_.2.1) k_∧zx (s_.2.2.1) k_∧zx (s_.2.2.2.1) k_∧zx (s_.2.2.2.2.1) k_∧zx (s_.2.2.2.2.2.1) k_∧zx (sv Ao43 t234 co43) k_∧zx (sv Ao51 t280 co51) k_∧zx (sv Ao56 t281 co56) k_∧zx (sv Ao61 t283 co61) k_∧zx (sv Ao67 t284 co67) k_∧zx (sv Ao73 t256 co73) k_∧zx (sv Ao80 t259 co80) k_) (.slice Ao45 t237.length co45) t237)∧(Kd.R (Kd.int .i64) 3 w' w.heap.size (fun k_=>zx (s_.1) k_∧zx (s_.2.1) k_∧zx (s_.2.2.1) k_∧zx (s_.2.2.2.1) k_∧zx (s_.2.2.2.2.1) k_∧zx (s_.2.2.2.2.2.1) k_∧zx (sv Ao43 t234 co43) k_∧zx (sv Ao45 t237 co45) k_∧zx (sv Ao56 t281 co56) k_∧zx (sv Ao61 t283 co61) k_∧zx (sv Ao67 t284 co67) k_∧zx (sv Ao73 t256 co73) k_∧zx (sv Ao80 t259 co80) k_) (.slice Ao51 t280.length co51) t280)∧(Kd.R (Kd.int .i64) 3 w' w.heap.size (fun k_=>zx (s_.1) k_∧zx (s_.2.1) k_∧zx (s_.2.2.1) k_∧zx (s_.2.2.2.1) k_∧zx (s_.2.2.2.2.1) k_∧zx (s_.2.2.2.2.2.1) k_∧zx (sv Ao43 t234 co43) k_∧zx (sv Ao45 t237 co45) k_∧zx (sv Ao51 t280 co51) k_∧zx (sv Ao61 t283 co61) k_∧zx (sv Ao67 t284 co67) k_∧zx (sv Ao73 t256 co73) k_∧zx (sv Ao80 t259 co80) k_) (.slice Ao56 t281.length co56) t281)∧(Kd.R (Kd.int .i64) 3 w' w.heap.size (fun k_=>zx (s_.1) k_∧zx (s_.2.1) k_∧zx (s_.2.2.1) k_∧zx (s_.2.2.2.1) k_∧zx (s_.2.2.2.2.1) k_∧zx (s_.2.2.2.2.2.1) k_∧zx (sv Ao43 t234 co43) k_∧zx (sv Ao45 t237 co45) k_∧zx (sv Ao51 t280 co51) k_∧zx (sv Ao56 t281 co56) k_∧zx (sv Ao67 t284 co67) k_∧zx (sv Ao73 t256 co73) k_∧zx (sv Ao80 t259 co80) k_) (.slice Ao61 t283.length co61) t283)∧(Kd.R (Kd.int .i64) 3 w' w.heap.size (fun k_=>zx (s_.1) k_∧zx (s_.2.1) k_∧zx (s_.2.2.1) k_∧zx (s_.2.2.2.1) k_∧zx (s_.2.2.2.2.1) k_∧zx (s_.2.2.2.2.2.1) k_∧zx (sv Ao43 t234 co43) k_∧zx (sv Ao45 t237 co45) k_∧zx (sv Ao51 t280 co51) k_∧zx (sv Ao56 t281 co56) k_∧zx (sv Ao61 t283 co61) k_∧zx (sv Ao73 t256 co73) k_∧zx (sv Ao80 t259 co80) k_) (.slice Ao67 t284.length co67) t284)∧(Kd.R (Kd.int .i64) 3 w' w.heap.size (fun k_=>zx (s_.1) k_∧zx (s_.2.1) k_∧zx (s_.2.2.1) k_∧zx (s_.2.2.2.1) k_∧zx (s_.2.2.2.2.1) k_∧zx (s_.2.2.2.2.2.1) k_∧zx (sv Ao43 t234 co43) k_∧zx (sv Ao45 t237 co45) k_∧zx (sv Ao51 t280 co51) k_∧zx (sv Ao56 t281 co56) k_∧zx (sv Ao61 t283 co61) k_∧zx (sv Ao67 t284 co67) k_∧zx (sv Ao80 t259 co80) k_) (.slice Ao73 t256.length co73) t287)∧(Kd.R (Kd.int .i64) 3 w' w.heap.size (fun k_=>zx (s_.1) k_∧zx (s_.2.1) k_∧zx (s_.2.2.1) k_∧zx (s_.2.2.2.1) k_∧zx (s_.2.2.2.2.1) k_∧zx (s_.2.2.2.2.2.1) k_∧zx (sv Ao43 t234 co43) k_∧zx (sv Ao45 t237 co45) k_∧zx (sv Ao51 t280 co51) k_∧zx (sv Ao56 t281 co56) k_∧zx (sv Ao61 t283 co61) k_∧zx (sv Ao67 t284 co67) k_∧zx (sv Ao73 t256 co73) k_) (.slice Ao80 t259.length co80) t288)∧(w'.heap[gb218]? = some (.cells #[.slice A0_0 l0_0.length c0_0,.slice A0_1 l0_1.length c0_1] 47 (0,0)))∧(w'.heap[gb219]? = some (.cells #[.slice A1_0 l1_0.length c1_0,.slice A1_1 l1_1.length c1_1] 47 (0,0)))∧(w'.heap[gb241]? = some (.cells #[.slice Ao43 t234.length co43,.slice Ao45 t237.length co45] 49 (0,0)))∧(w'.heap[gb248]? = some (.cells #[.slice Ao51 t280.length co51,.slice Ao56 t281.length co56] 49 (0,0)))∧(w'.heap[gb255]? = some (.cells #[.slice Ao61 t283.length co61,.slice Ao67 t284.length co67] 49 (0,0)))∧(w'.heap[gb263]? = some (.cells #[.slice Ao73 t256.length co73,.slice Ao80 t259.length co80] 49 (0,0)))∧(w'.heap[s_.2.2.2.2.2.2]? = some (.cells #[.slice none 0 0,.slice none 0 0] 49 (0,0)))∧(w.heap.size≤s_.2.2.2.2.2.2)∧(w.heap.size≤s_.2.2.2.2.2.2)∧(gb218≠s_.2.2.2.2.2.2)∧(s_.2.2.2.2.2.2≠gb218)∧(gb219≠s_.2.2.2.2.2.2)∧(s_.2.2.2.2.2.2≠gb219)∧(gb241≠s_.2.2.2.2.2.2)∧(s_.2.2.2.2.2.2≠gb241)∧(gb248≠s_.2.2.2.2.2.2)∧(s_.2.2.2.2.2.2≠gb248)∧(gb255≠s_.2.2.2.2.2.2)∧(s_.2.2.2.2.2.2≠gb255)∧(gb263≠s_.2.2.2.2.2.2)∧(s_.2.2.2.2.2.2≠gb263)∧(Below w.heap.size w w')) ?_ ?_
             rotate_left
             ·intro hCont
              refine two_ (i:=1) (j:=8) (Ni:=some 96) (Nj:=some 15) (zA 11 7) (zA 11 261) rfl rfl rfl rfl (two_of HT_.out (by kernel_rfl)) (by decide) (by decide) (fun K hK=>?_) (fun K hK=>?_)
              ·skip
               refine goes_ Try.func25 (by kernel_rfl) rfl #[.agg #[.slice A0_0 l0_0.length c0_0,.slice A0_1 l0_1.length c0_1]] (by rfl) rfl rfl (by (try simp only [List.map_toArray,List.map_cons,List.map_nil]);first|done|rfl|(simp only [List.length_drop,List.length_take];rfl)) ?_
               with_reducible refine (laws_toSubstitution.calls kj115 _ _ l0_0 _ _ l0_1 t290 t293 _ ?side1 ?side2 ?side3 ?side4 A172.out).mono ?_
               (case side1=>exact zc HR0_0.out)
               (case side2=>exact HC0_0.out)
               (case side3=>exact zc HR0_1.out)
               (case side4=>exact HC0_1.out)
               rintro e w186 ⟨v291,v294,rfl,ho0,ho1,hb⟩
               refine ⟨_,rfl,?_⟩
               have HO292:=zm (Kd.R_lower (zn (zn (zn (zn (zn (zn (zn (zn ho0 (zr HO_242000.out)) (zr HO_242001.out)) (zr HO_249000.out)) (zr HO_249001.out)) (zr HO_256000.out)) (zr HO_256001.out)) (zr HO_264000.out)) (zr HO_264001.out)) (below_size zl))
               have HO295:=zm (Kd.R_lower (zn (zn (zn (zn (zn (zn (zn (zn ho1 (zr HO_242000.out)) (zr HO_242001.out)) (zr HO_249000.out)) (zr HO_249001.out)) (zr HO_256000.out)) (zr HO_256001.out)) (zr HO_264000.out)) (zr HO_264001.out)) (below_size zl))
               replace HO_242000:=(zO2 HO_242000 hb ho0 ho1)
               replace HO_242001:=(zO2 HO_242001 hb ho0 ho1)
               replace HO_249000:=(zO2 HO_249000 hb ho0 ho1)
               replace HO_249001:=(zO2 HO_249001 hb ho0 ho1)
               replace HO_256000:=(zO2 HO_256000 hb ho0 ho1)
               replace HO_256001:=(zO2 HO_256001 hb ho0 ho1)
               replace HO_264000:=(zO2 HO_264000 hb ho0 ho1)
               replace HO_264001:=(zO2 HO_264001 hb ho0 ho1)
               replace BK218:=zbk BK218 hb
               replace BK219:=zbk BK219 hb
               replace BK241:=zbk BK241 hb
               replace BK248:=zbk BK248 hb
               replace BK255:=zbk BK255 hb
               replace BK263:=zbk BK263 hb
               replace HB:=zm (below_step zl hb)
               (try clear hb ho0 ho1)
               refine hK.out _ _ ⟨zcl BK218.out 0,zcl BK218.out 1,zcl BK219.out 0,zcl BK219.out 1⟩ (fun hHeld=>?_)
               clear hK K
               refine zO (some 96) ?_
               refine two_ (i:=3) (j:=8) (Ni:=some 98) (Nj:=some 15) (zA 11 15) (zA 11 263) rfl rfl rfl rfl (two_of HT_.out (by kernel_rfl)) (by decide) (by decide) (fun K hK=>?_) (fun K hK=>?_)
               ·skip
                refine goes_ Try.func25 (by kernel_rfl) rfl #[.agg #[.slice A1_0 l1_0.length c1_0,.slice A1_1 l1_1.length c1_1]] (by rfl) rfl rfl (by (try simp only [List.map_toArray,List.map_cons,List.map_nil]);first|done|rfl|(simp only [List.length_drop,List.length_take];rfl)) ?_
                with_reducible refine (laws_toSubstitution.calls kj115 _ _ l1_0 _ _ l1_1 t296 t299 _ ?side1 ?side2 ?side3 ?side4 A173.out).mono ?_
                (case side1=>exact zc HR1_0.out)
                (case side2=>exact HC1_0.out)
                (case side3=>exact zc HR1_1.out)
                (case side4=>exact HC1_1.out)
                rintro e w187 ⟨v297,v300,rfl,ho0,ho1,hb⟩
                refine ⟨_,rfl,?_⟩
                have HO298:=zm (Kd.R_lower (zn (zn (zn (zn (zn (zn (zn (zn (zn (zn ho0 (zr HO_242000.out)) (zr HO_242001.out)) (zr HO_249000.out)) (zr HO_249001.out)) (zr HO_256000.out)) (zr HO_256001.out)) (zr HO_264000.out)) (zr HO_264001.out)) (zr HO292.out)) (zr HO295.out)) (below_size zl))
                have HO301:=zm (Kd.R_lower (zn (zn (zn (zn (zn (zn (zn (zn (zn (zn ho1 (zr HO_242000.out)) (zr HO_242001.out)) (zr HO_249000.out)) (zr HO_249001.out)) (zr HO_256000.out)) (zr HO_256001.out)) (zr HO_264000.out)) (zr HO_264001.out)) (zr HO292.out)) (zr HO295.out)) (below_size zl))
                replace HO_242000:=(zO2 HO_242000 hb ho0 ho1)
                replace HO_242001:=(zO2 HO_242001 hb ho0 ho1)
                replace HO_249000:=(zO2 HO_249000 hb ho0 ho1)
                replace HO_249001:=(zO2 HO_249001 hb ho0 ho1)
                replace HO_256000:=(zO2 HO_256000 hb ho0 ho1)
                replace HO_256001:=(zO2 HO_256001 hb ho0 ho1)
                replace HO_264000:=(zO2 HO_264000 hb ho0 ho1)
                replace HO_264001:=(zO2 HO_264001 hb ho0 ho1)
                replace HO292:=(zO2 HO292 hb ho0 ho1)
                replace HO295:=(zO2 HO295 hb ho0 ho1)
                replace BK218:=zbk BK218 hb
                replace BK219:=zbk BK219 hb
                replace BK241:=zbk BK241 hb
                replace BK248:=zbk BK248 hb
                replace BK255:=zbk BK255 hb
                replace BK263:=zbk BK263 hb
                replace HB:=zm (below_step zl hb)
                (try clear hb ho0 ho1)
                obtain ⟨Ao188,co188,eo188⟩:=Kd.R_slice HO292.out
                (first|subst eo188|(injection eo188 with f1_ f2_ f3_;obtain rfl:=f1_.symm;obtain rfl:=f3_.symm))
                obtain ⟨Ao189,co189,eo189⟩:=Kd.R_slice HO295.out
                (first|subst eo189|(injection eo189 with f1_ f2_ f3_;obtain rfl:=f1_.symm;obtain rfl:=f3_.symm))
                obtain ⟨Ao190,co190,eo190⟩:=Kd.R_slice HO298.out
                (first|subst eo190|(injection eo190 with f1_ f2_ f3_;obtain rfl:=f1_.symm;obtain rfl:=f3_.symm))
                obtain ⟨Ao191,co191,eo191⟩:=Kd.R_slice HO301.out
                (first|subst eo191|(injection eo191 with f1_ f2_ f3_;obtain rfl:=f1_.symm;obtain rfl:=f3_.symm))
                refine hK.out _ _ ⟨zcl BK218.out 0,zcl BK218.out 1,zcl BK219.out 0,zcl BK219.out 1⟩ (fun hHeld=>?_)
                clear hK K
                refine zO (some 98) ?_
                refine two_ (i:=4) (j:=8) (Ni:=some 99) (Nj:=some 15) (zA 11 31) (zA 11 271) rfl rfl rfl rfl (two_of HT_.out (by kernel_rfl)) (by decide) (by decide) (fun K hK=>?_) (fun K hK=>?_)
                ·skip
                 refine goes_ Try.func26 (by kernel_rfl) rfl #[.agg #[.slice Ao188 t290.length co188,.slice Ao189 t293.length co189],.agg #[.slice Ao190 t296.length co190,.slice Ao191 t299.length co191]] (by rfl) rfl rfl (by (try simp only [List.map_toArray,List.map_cons,List.map_nil]);first|done|rfl|(simp only [List.length_drop,List.length_take];rfl)) ?_
                 with_reducible refine (impl_Compose.calls kj115 (fun k_=>some k_ = (.slice Ao188 t290.length co188:Value).ownBlock) _ _ t290 _ _ t293 (fun k_=>some k_ = (.slice Ao190 t296.length co190:Value).ownBlock) _ _ t296 _ _ t299 t302 t305 t308 _ ?side1 ?side2 ?side3 ?side4 ?side5 ?side6 A174.out).mono ?_
                 (case side1=>exact Kd.R_V (Kd.R_tight rfl (Kd.R_types (Kd.R_types (Kd.R_types (Kd.R_types (Kd.R_types (Kd.R_types (HO292.out) BK218.out (by decide)) BK219.out (by decide)) BK241.out (by decide)) BK248.out (by decide)) BK255.out (by decide)) BK263.out (by decide))))
                 (case side2=>exact zk HO295.out)
                 (case side3=>exact (Kd.R_reads' HO295.out).2.1)
                 (case side4=>exact Kd.R_V (Kd.R_tight rfl (Kd.R_types (Kd.R_types (Kd.R_types (Kd.R_types (Kd.R_types (Kd.R_types (HO298.out) BK218.out (by decide)) BK219.out (by decide)) BK241.out (by decide)) BK248.out (by decide)) BK255.out (by decide)) BK263.out (by decide))))
                 (case side5=>exact zk HO301.out)
                 (case side6=>exact (Kd.R_reads' HO301.out).2.1)
                 rintro e w192 ⟨v303,v306,rfl,ho0,ho1,hb⟩
                 refine ⟨_,rfl,?_⟩
                 have HO304:=zm (Kd.R_lower (zn (zn (zn (zn (zn (zn (zn (zn (zn (zn (zn (zn (Kd.R_mono (ok':=fun k_=>zx v306 k_) ho0 (fun _ hk_=>hk_.2)) (zr HO_242000.out)) (zr HO_242001.out)) (zr HO_249000.out)) (zr HO_249001.out)) (zr HO_256000.out)) (zr HO_256001.out)) (zr HO_264000.out)) (zr HO_264001.out)) (zr HO292.out)) (zr HO295.out)) (zr HO298.out)) (zr HO301.out)) (below_size zl))
                 have HO307:=zm (Kd.R_lower (zn (zn (zn (zn (zn (zn (zn (zn (zn (zn (zn (zn (Kd.R_mono (ok':=fun k_=>zx v303 k_) ho1 (fun _ hk_=>hk_.2)) (zr HO_242000.out)) (zr HO_242001.out)) (zr HO_249000.out)) (zr HO_249001.out)) (zr HO_256000.out)) (zr HO_256001.out)) (zr HO_264000.out)) (zr HO_264001.out)) (zr HO292.out)) (zr HO295.out)) (zr HO298.out)) (zr HO301.out)) (below_size zl))
                 replace HO_242000:=(zO2 HO_242000 hb ho0 ho1)
                 replace HO_242001:=(zO2 HO_242001 hb ho0 ho1)
                 replace HO_249000:=(zO2 HO_249000 hb ho0 ho1)
                 replace HO_249001:=(zO2 HO_249001 hb ho0 ho1)
                 replace HO_256000:=(zO2 HO_256000 hb ho0 ho1)
                 replace HO_256001:=(zO2 HO_256001 hb ho0 ho1)
                 replace HO_264000:=(zO2 HO_264000 hb ho0 ho1)
                 replace HO_264001:=(zO2 HO_264001 hb ho0 ho1)
                 replace HO292:=(zO2 HO292 hb ho0 ho1)
                 replace HO295:=(zO2 HO295 hb ho0 ho1)
                 replace HO298:=(zO2 HO298 hb ho0 ho1)
                 replace HO301:=(zO2 HO301 hb ho0 ho1)
                 replace BK218:=zbk BK218 hb
                 replace BK219:=zbk BK219 hb
                 replace BK241:=zbk BK241 hb
                 replace BK248:=zbk BK248 hb
                 replace BK255:=zbk BK255 hb
                 replace BK263:=zbk BK263 hb
                 replace HB:=zm (below_step zl hb)
                 (try clear hb ho0 ho1)
                 refine hK.out _ _ ⟨zcl BK218.out 0,zcl BK218.out 1,zcl BK219.out 0,zcl BK219.out 1⟩ (fun hHeld=>?_)
                 clear hK K
                 refine zO (some 99) ?_
                 refine zP 5 (some 94) (zA 11 63) (any_of HT_.out (by kernel_rfl)) ?_
                 refine zP 6 (some 100) (zA 11 127) (any_of HT_.out (by kernel_rfl)) ?_
                 refine zP 7 (some 101) (zA 11 255) (any_of HT_.out (by kernel_rfl)) ?_
                 refine one_ (i:=8) (N:=some 15) (zA 11 511) rfl rfl (one_of HT_.out (by kernel_rfl)) (by decide) (fun K hK=>?_)
                 refine box_step ?hg (N:=15) ?hd (cs:=#[.slice none 0 0,.slice none 0 0]) (t:=49) ?hr ?_;(case hd=>rfl);(case hg=>rfl);(case hr=>first|(go_simp;done)|(go_simp;rfl))
                 intro gb309 hg w193 hbox hb
                 replace HO_242000:=zRb HO_242000 hb
                 replace HO_242001:=zRb HO_242001 hb
                 replace HO_249000:=zRb HO_249000 hb
                 replace HO_249001:=zRb HO_249001 hb
                 replace HO_256000:=zRb HO_256000 hb
                 replace HO_256001:=zRb HO_256001 hb
                 replace HO_264000:=zRb HO_264000 hb
                 replace HO_264001:=zRb HO_264001 hb
                 replace HO292:=zRb HO292 hb
                 replace HO295:=zRb HO295 hb
                 replace HO298:=zRb HO298 hb
                 replace HO301:=zRb HO301 hb
                 replace HO304:=zRb HO304 hb
                 replace HO307:=zRb HO307 hb
                 have BK309:=zm (hbox)
                 have GW309:=zm ((by rw [hg];exact (below_size zl):w.heap.size≤gb309))
                 have GE309:=GW309
                 replace HB:=zm (below_step zl hb)
                 have NB218_309:=zm (zl1 hg (zb BK218.out))
                 have NB309_218:=zm (zl2 hg (zb BK218.out))
                 replace BK218:=zbk BK218 hb
                 have NB219_309:=zm (zl1 hg (zb BK219.out))
                 have NB309_219:=zm (zl2 hg (zb BK219.out))
                 replace BK219:=zbk BK219 hb
                 have NB241_309:=zm (zl1 hg (zb BK241.out))
                 have NB309_241:=zm (zl2 hg (zb BK241.out))
                 replace BK241:=zbk BK241 hb
                 have NB248_309:=zm (zl1 hg (zb BK248.out))
                 have NB309_248:=zm (zl2 hg (zb BK248.out))
                 replace BK248:=zbk BK248 hb
                 have NB255_309:=zm (zl1 hg (zb BK255.out))
                 have NB309_255:=zm (zl2 hg (zb BK255.out))
                 replace BK255:=zbk BK255 hb
                 have NB263_309:=zm (zl1 hg (zb BK263.out))
                 have NB309_263:=zm (zl2 hg (zb BK263.out))
                 replace BK263:=zbk BK263 hb
                 clear hb hbox hg
                 refine hK.out _ _ ⟨zcl BK218.out 0,zcl BK218.out 1,zcl BK219.out 0,zcl BK219.out 1⟩ (fun hHeld=>?_)
                 clear hK K
                 refine zO (some 15) ?_
                 exact norm_ (by simp only [putAll,Act.put,List.setIfInBounds_toArray,List.set_cons_zero,List.set_cons_succ]) (hCont (.slice Ao188 t290.length co188,.slice Ao189 t293.length co189,.slice Ao190 t296.length co190,.slice Ao191 t299.length co191,v303,v306,gb309) _ ⟨hHeld,(zr (Kd.R_mono HO292.out (fun _ hk=>⟨hk.1.1.1.1.1.1.1.1.1.1.1.1,hk.1.1.1.2,hk.1.1.2,hk.1.2,hk.2,hk.1.1.1.1.1.1.1.1.1.1.1.2,hk.1.1.1.1.1.1.1.1.1.1.2,hk.1.1.1.1.1.1.1.1.1.2,hk.1.1.1.1.1.1.1.1.2,hk.1.1.1.1.1.1.1.2,hk.1.1.1.1.1.1.2,hk.1.1.1.1.1.2,hk.1.1.1.1.2⟩))),(zr (Kd.R_mono HO295.out (fun _ hk=>⟨hk.1.1.1.1.1.1.1.1.1.1.1.1,hk.1.1.1.2,hk.1.1.2,hk.1.2,hk.2,hk.1.1.1.1.1.1.1.1.1.1.1.2,hk.1.1.1.1.1.1.1.1.1.1.2,hk.1.1.1.1.1.1.1.1.1.2,hk.1.1.1.1.1.1.1.1.2,hk.1.1.1.1.1.1.1.2,hk.1.1.1.1.1.1.2,hk.1.1.1.1.1.2,hk.1.1.1.1.2⟩))),(zr (Kd.R_mono HO298.out (fun _ hk=>⟨hk.1.1.1.2,hk.1.1.2,hk.1.1.1.1.1.1.1.1.1.1.1.1,hk.1.2,hk.2,hk.1.1.1.1.1.1.1.1.1.1.1.2,hk.1.1.1.1.1.1.1.1.1.1.2,hk.1.1.1.1.1.1.1.1.1.2,hk.1.1.1.1.1.1.1.1.2,hk.1.1.1.1.1.1.1.2,hk.1.1.1.1.1.1.2,hk.1.1.1.1.1.2,hk.1.1.1.1.2⟩))),(zr (Kd.R_mono HO301.out (fun _ hk=>⟨hk.1.1.1.2,hk.1.1.2,hk.1.1.1.1.1.1.1.1.1.1.1.1,hk.1.2,hk.2,hk.1.1.1.1.1.1.1.1.1.1.1.2,hk.1.1.1.1.1.1.1.1.1.1.2,hk.1.1.1.1.1.1.1.1.1.2,hk.1.1.1.1.1.1.1.1.2,hk.1.1.1.1.1.1.1.2,hk.1.1.1.1.1.1.2,hk.1.1.1.1.1.2,hk.1.1.1.1.2⟩))),(zr (Kd.R_mono HO304.out (fun _ hk=>⟨hk.1.1.1.2,hk.1.1.2,hk.1.2,hk.2,hk.1.1.1.1.1.1.1.1.1.1.1.1,hk.1.1.1.1.1.1.1.1.1.1.1.2,hk.1.1.1.1.1.1.1.1.1.1.2,hk.1.1.1.1.1.1.1.1.1.2,hk.1.1.1.1.1.1.1.1.2,hk.1.1.1.1.1.1.1.2,hk.1.1.1.1.1.1.2,hk.1.1.1.1.1.2,hk.1.1.1.1.2⟩))),(zr (Kd.R_mono HO307.out (fun _ hk=>⟨hk.1.1.1.2,hk.1.1.2,hk.1.2,hk.2,hk.1.1.1.1.1.1.1.1.1.1.1.1,hk.1.1.1.1.1.1.1.1.1.1.1.2,hk.1.1.1.1.1.1.1.1.1.1.2,hk.1.1.1.1.1.1.1.1.1.2,hk.1.1.1.1.1.1.1.1.2,hk.1.1.1.1.1.1.1.2,hk.1.1.1.1.1.1.2,hk.1.1.1.1.1.2,hk.1.1.1.1.2⟩))),(zr (Kd.R_mono HO_242000.out (fun _ hk=>⟨hk.1.1.1.1.1.2,hk.1.1.1.1.2,hk.1.1.1.2,hk.1.1.2,hk.1.2,hk.2,hk.1.1.1.1.1.1.1,hk.1.1.1.1.1.1.2.1,hk.1.1.1.1.1.1.2.2.1,hk.1.1.1.1.1.1.2.2.2.1,hk.1.1.1.1.1.1.2.2.2.2.1,hk.1.1.1.1.1.1.2.2.2.2.2.1,hk.1.1.1.1.1.1.2.2.2.2.2.2⟩))),(zr (Kd.R_mono HO_242001.out (fun _ hk=>⟨hk.1.1.1.1.1.2,hk.1.1.1.1.2,hk.1.1.1.2,hk.1.1.2,hk.1.2,hk.2,hk.1.1.1.1.1.1.1,hk.1.1.1.1.1.1.2.1,hk.1.1.1.1.1.1.2.2.1,hk.1.1.1.1.1.1.2.2.2.1,hk.1.1.1.1.1.1.2.2.2.2.1,hk.1.1.1.1.1.1.2.2.2.2.2.1,hk.1.1.1.1.1.1.2.2.2.2.2.2⟩))),(zr (Kd.R_mono HO_249000.out (fun _ hk=>⟨hk.1.1.1.1.1.2,hk.1.1.1.1.2,hk.1.1.1.2,hk.1.1.2,hk.1.2,hk.2,hk.1.1.1.1.1.1.1,hk.1.1.1.1.1.1.2.1,hk.1.1.1.1.1.1.2.2.1,hk.1.1.1.1.1.1.2.2.2.1,hk.1.1.1.1.1.1.2.2.2.2.1,hk.1.1.1.1.1.1.2.2.2.2.2.1,hk.1.1.1.1.1.1.2.2.2.2.2.2⟩))),(zr (Kd.R_mono HO_249001.out (fun _ hk=>⟨hk.1.1.1.1.1.2,hk.1.1.1.1.2,hk.1.1.1.2,hk.1.1.2,hk.1.2,hk.2,hk.1.1.1.1.1.1.1,hk.1.1.1.1.1.1.2.1,hk.1.1.1.1.1.1.2.2.1,hk.1.1.1.1.1.1.2.2.2.1,hk.1.1.1.1.1.1.2.2.2.2.1,hk.1.1.1.1.1.1.2.2.2.2.2.1,hk.1.1.1.1.1.1.2.2.2.2.2.2⟩))),(zr (Kd.R_mono HO_256000.out (fun _ hk=>⟨hk.1.1.1.1.1.2,hk.1.1.1.1.2,hk.1.1.1.2,hk.1.1.2,hk.1.2,hk.2,hk.1.1.1.1.1.1.1,hk.1.1.1.1.1.1.2.1,hk.1.1.1.1.1.1.2.2.1,hk.1.1.1.1.1.1.2.2.2.1,hk.1.1.1.1.1.1.2.2.2.2.1,hk.1.1.1.1.1.1.2.2.2.2.2.1,hk.1.1.1.1.1.1.2.2.2.2.2.2⟩))),(zr (Kd.R_mono HO_256001.out (fun _ hk=>⟨hk.1.1.1.1.1.2,hk.1.1.1.1.2,hk.1.1.1.2,hk.1.1.2,hk.1.2,hk.2,hk.1.1.1.1.1.1.1,hk.1.1.1.1.1.1.2.1,hk.1.1.1.1.1.1.2.2.1,hk.1.1.1.1.1.1.2.2.2.1,hk.1.1.1.1.1.1.2.2.2.2.1,hk.1.1.1.1.1.1.2.2.2.2.2.1,hk.1.1.1.1.1.1.2.2.2.2.2.2⟩))),(zr (Kd.R_mono HO_264000.out (fun _ hk=>⟨hk.1.1.1.1.1.2,hk.1.1.1.1.2,hk.1.1.1.2,hk.1.1.2,hk.1.2,hk.2,hk.1.1.1.1.1.1.1,hk.1.1.1.1.1.1.2.1,hk.1.1.1.1.1.1.2.2.1,hk.1.1.1.1.1.1.2.2.2.1,hk.1.1.1.1.1.1.2.2.2.2.1,hk.1.1.1.1.1.1.2.2.2.2.2.1,hk.1.1.1.1.1.1.2.2.2.2.2.2⟩))),(zr (Kd.R_mono HO_264001.out (fun _ hk=>⟨hk.1.1.1.1.1.2,hk.1.1.1.1.2,hk.1.1.1.2,hk.1.1.2,hk.1.2,hk.2,hk.1.1.1.1.1.1.1,hk.1.1.1.1.1.1.2.1,hk.1.1.1.1.1.1.2.2.1,hk.1.1.1.1.1.1.2.2.2.1,hk.1.1.1.1.1.1.2.2.2.2.1,hk.1.1.1.1.1.1.2.2.2.2.2.1,hk.1.1.1.1.1.1.2.2.2.2.2.2⟩))),(zb BK218.out),(zb BK219.out),(zb BK241.out),(zb BK248.out),(zb BK255.out),(zb BK263.out),(zb BK309.out),GW309.out,GE309.out,NB218_309.out,NB309_218.out,NB219_309.out,NB309_219.out,NB241_309.out,NB309_241.out,NB248_309.out,NB309_248.out,NB255_309.out,NB309_255.out,NB263_309.out,NB309_263.out,zl⟩)
                ·skip
                 refine box_step ?hg (N:=15) ?hd (cs:=#[.slice none 0 0,.slice none 0 0]) (t:=49) ?hr ?_;(case hd=>rfl);(case hg=>rfl);(case hr=>first|(go_simp;done)|(go_simp;rfl))
                 intro gb309 hg w188 hbox hb
                 replace HO_242000:=zRb HO_242000 hb
                 replace HO_242001:=zRb HO_242001 hb
                 replace HO_249000:=zRb HO_249000 hb
                 replace HO_249001:=zRb HO_249001 hb
                 replace HO_256000:=zRb HO_256000 hb
                 replace HO_256001:=zRb HO_256001 hb
                 replace HO_264000:=zRb HO_264000 hb
                 replace HO_264001:=zRb HO_264001 hb
                 replace HO292:=zRb HO292 hb
                 replace HO295:=zRb HO295 hb
                 replace HO298:=zRb HO298 hb
                 replace HO301:=zRb HO301 hb
                 have BK309:=zm (hbox)
                 have GW309:=zm ((by rw [hg];exact (below_size zl):w.heap.size≤gb309))
                 have GE309:=GW309
                 replace HB:=zm (below_step zl hb)
                 have NB218_309:=zm (zl1 hg (zb BK218.out))
                 have NB309_218:=zm (zl2 hg (zb BK218.out))
                 replace BK218:=zbk BK218 hb
                 have NB219_309:=zm (zl1 hg (zb BK219.out))
                 have NB309_219:=zm (zl2 hg (zb BK219.out))
                 replace BK219:=zbk BK219 hb
                 have NB241_309:=zm (zl1 hg (zb BK241.out))
                 have NB309_241:=zm (zl2 hg (zb BK241.out))
                 replace BK241:=zbk BK241 hb
                 have NB248_309:=zm (zl1 hg (zb BK248.out))
                 have NB309_248:=zm (zl2 hg (zb BK248.out))
                 replace BK248:=zbk BK248 hb
                 have NB255_309:=zm (zl1 hg (zb BK255.out))
                 have NB309_255:=zm (zl2 hg (zb BK255.out))
                 replace BK255:=zbk BK255 hb
                 have NB263_309:=zm (zl1 hg (zb BK263.out))
                 have NB309_263:=zm (zl2 hg (zb BK263.out))
                 replace BK263:=zbk BK263 hb
                 clear hb hbox hg
                 obtain ⟨Ao189,co189,eo189⟩:=Kd.R_slice HO292.out
                 (first|subst eo189|(injection eo189 with f1_ f2_ f3_;obtain rfl:=f1_.symm;obtain rfl:=f3_.symm))
                 obtain ⟨Ao190,co190,eo190⟩:=Kd.R_slice HO295.out
                 (first|subst eo190|(injection eo190 with f1_ f2_ f3_;obtain rfl:=f1_.symm;obtain rfl:=f3_.symm))
                 obtain ⟨Ao191,co191,eo191⟩:=Kd.R_slice HO298.out
                 (first|subst eo191|(injection eo191 with f1_ f2_ f3_;obtain rfl:=f1_.symm;obtain rfl:=f3_.symm))
                 obtain ⟨Ao192,co192,eo192⟩:=Kd.R_slice HO301.out
                 (first|subst eo192|(injection eo192 with f1_ f2_ f3_;obtain rfl:=f1_.symm;obtain rfl:=f3_.symm))
                 refine hK.out _ _ ⟨zcl BK218.out 0,zcl BK218.out 1,zcl BK219.out 0,zcl BK219.out 1⟩ (fun hHeld=>?_)
                 clear hK K
                 refine zO (some 15) ?_
                 refine one_ (i:=4) (N:=some 99) (zA 11 287) rfl rfl (one_of HT_.out (by kernel_rfl)) (by decide) (fun K hK=>?_)
                 refine goes_ Try.func26 (by kernel_rfl) rfl #[.agg #[.slice Ao189 t290.length co189,.slice Ao190 t293.length co190],.agg #[.slice Ao191 t296.length co191,.slice Ao192 t299.length co192]] (by rfl) rfl rfl (by (try simp only [List.map_toArray,List.map_cons,List.map_nil]);first|done|rfl|(simp only [List.length_drop,List.length_take];rfl)) ?_
                 with_reducible refine (impl_Compose.calls kj115 (fun k_=>some k_ = (.slice Ao189 t290.length co189:Value).ownBlock) _ _ t290 _ _ t293 (fun k_=>some k_ = (.slice Ao191 t296.length co191:Value).ownBlock) _ _ t296 _ _ t299 t302 t305 t308 _ ?side1 ?side2 ?side3 ?side4 ?side5 ?side6 A174.out).mono ?_
                 (case side1=>exact Kd.R_V (Kd.R_tight rfl (Kd.R_types (Kd.R_types (Kd.R_types (Kd.R_types (Kd.R_types (Kd.R_types (Kd.R_types (HO292.out) BK218.out (by decide)) BK219.out (by decide)) BK241.out (by decide)) BK248.out (by decide)) BK255.out (by decide)) BK263.out (by decide)) BK309.out (by decide))))
                 (case side2=>exact zk HO295.out)
                 (case side3=>exact (Kd.R_reads' HO295.out).2.1)
                 (case side4=>exact Kd.R_V (Kd.R_tight rfl (Kd.R_types (Kd.R_types (Kd.R_types (Kd.R_types (Kd.R_types (Kd.R_types (Kd.R_types (HO298.out) BK218.out (by decide)) BK219.out (by decide)) BK241.out (by decide)) BK248.out (by decide)) BK255.out (by decide)) BK263.out (by decide)) BK309.out (by decide))))
                 (case side5=>exact zk HO301.out)
                 (case side6=>exact (Kd.R_reads' HO301.out).2.1)
                 rintro e w193 ⟨v303,v306,rfl,ho0,ho1,hb⟩
                 refine ⟨_,rfl,?_⟩
                 have HO304:=zm (Kd.R_lower (zn (zn (zn (zn (zn (zn (zn (zn (zn (zn (zn (zn (Kd.R_mono (ok':=fun k_=>zx v306 k_) ho0 (fun _ hk_=>hk_.2)) (zr HO_242000.out)) (zr HO_242001.out)) (zr HO_249000.out)) (zr HO_249001.out)) (zr HO_256000.out)) (zr HO_256001.out)) (zr HO_264000.out)) (zr HO_264001.out)) (zr HO292.out)) (zr HO295.out)) (zr HO298.out)) (zr HO301.out)) (below_size zl))
                 have HO307:=zm (Kd.R_lower (zn (zn (zn (zn (zn (zn (zn (zn (zn (zn (zn (zn (Kd.R_mono (ok':=fun k_=>zx v303 k_) ho1 (fun _ hk_=>hk_.2)) (zr HO_242000.out)) (zr HO_242001.out)) (zr HO_249000.out)) (zr HO_249001.out)) (zr HO_256000.out)) (zr HO_256001.out)) (zr HO_264000.out)) (zr HO_264001.out)) (zr HO292.out)) (zr HO295.out)) (zr HO298.out)) (zr HO301.out)) (below_size zl))
                 replace HO_242000:=(zO2 HO_242000 hb ho0 ho1)
                 replace HO_242001:=(zO2 HO_242001 hb ho0 ho1)
                 replace HO_249000:=(zO2 HO_249000 hb ho0 ho1)
                 replace HO_249001:=(zO2 HO_249001 hb ho0 ho1)
                 replace HO_256000:=(zO2 HO_256000 hb ho0 ho1)
                 replace HO_256001:=(zO2 HO_256001 hb ho0 ho1)
                 replace HO_264000:=(zO2 HO_264000 hb ho0 ho1)
                 replace HO_264001:=(zO2 HO_264001 hb ho0 ho1)
                 replace HO292:=(zO2 HO292 hb ho0 ho1)
                 replace HO295:=(zO2 HO295 hb ho0 ho1)
                 replace HO298:=(zO2 HO298 hb ho0 ho1)
                 replace HO301:=(zO2 HO301 hb ho0 ho1)
                 replace BK218:=zbk BK218 hb
                 replace BK219:=zbk BK219 hb
                 replace BK241:=zbk BK241 hb
                 replace BK248:=zbk BK248 hb
                 replace BK255:=zbk BK255 hb
                 replace BK263:=zbk BK263 hb
                 replace BK309:=zbk BK309 hb
                 replace HB:=zm (below_step zl hb)
                 (try clear hb ho0 ho1)
                 refine hK.out _ _ ⟨zcl BK218.out 0,zcl BK218.out 1,zcl BK219.out 0,zcl BK219.out 1⟩ (fun hHeld=>?_)
                 clear hK K
                 refine zO (some 99) ?_
                 refine zP 5 (some 94) (zA 11 319) (any_of HT_.out (by kernel_rfl)) ?_
                 refine zP 6 (some 100) (zA 11 383) (any_of HT_.out (by kernel_rfl)) ?_
                 refine zP 7 (some 101) (zA 11 511) (any_of HT_.out (by kernel_rfl)) ?_
                 exact norm_ (by simp only [putAll,Act.put,List.setIfInBounds_toArray,List.set_cons_zero,List.set_cons_succ]) (hCont (.slice Ao189 t290.length co189,.slice Ao190 t293.length co190,.slice Ao191 t296.length co191,.slice Ao192 t299.length co192,v303,v306,gb309) _ ⟨hHeld,(zr (Kd.R_mono HO292.out (fun _ hk=>⟨hk.1.1.1.1.1.1.1.1.1.1.1.1,hk.1.1.1.2,hk.1.1.2,hk.1.2,hk.2,hk.1.1.1.1.1.1.1.1.1.1.1.2,hk.1.1.1.1.1.1.1.1.1.1.2,hk.1.1.1.1.1.1.1.1.1.2,hk.1.1.1.1.1.1.1.1.2,hk.1.1.1.1.1.1.1.2,hk.1.1.1.1.1.1.2,hk.1.1.1.1.1.2,hk.1.1.1.1.2⟩))),(zr (Kd.R_mono HO295.out (fun _ hk=>⟨hk.1.1.1.1.1.1.1.1.1.1.1.1,hk.1.1.1.2,hk.1.1.2,hk.1.2,hk.2,hk.1.1.1.1.1.1.1.1.1.1.1.2,hk.1.1.1.1.1.1.1.1.1.1.2,hk.1.1.1.1.1.1.1.1.1.2,hk.1.1.1.1.1.1.1.1.2,hk.1.1.1.1.1.1.1.2,hk.1.1.1.1.1.1.2,hk.1.1.1.1.1.2,hk.1.1.1.1.2⟩))),(zr (Kd.R_mono HO298.out (fun _ hk=>⟨hk.1.1.1.2,hk.1.1.2,hk.1.1.1.1.1.1.1.1.1.1.1.1,hk.1.2,hk.2,hk.1.1.1.1.1.1.1.1.1.1.1.2,hk.1.1.1.1.1.1.1.1.1.1.2,hk.1.1.1.1.1.1.1.1.1.2,hk.1.1.1.1.1.1.1.1.2,hk.1.1.1.1.1.1.1.2,hk.1.1.1.1.1.1.2,hk.1.1.1.1.1.2,hk.1.1.1.1.2⟩))),(zr (Kd.R_mono HO301.out (fun _ hk=>⟨hk.1.1.1.2,hk.1.1.2,hk.1.1.1.1.1.1.1.1.1.1.1.1,hk.1.2,hk.2,hk.1.1.1.1.1.1.1.1.1.1.1.2,hk.1.1.1.1.1.1.1.1.1.1.2,hk.1.1.1.1.1.1.1.1.1.2,hk.1.1.1.1.1.1.1.1.2,hk.1.1.1.1.1.1.1.2,hk.1.1.1.1.1.1.2,hk.1.1.1.1.1.2,hk.1.1.1.1.2⟩))),(zr (Kd.R_mono HO304.out (fun _ hk=>⟨hk.1.1.1.2,hk.1.1.2,hk.1.2,hk.2,hk.1.1.1.1.1.1.1.1.1.1.1.1,hk.1.1.1.1.1.1.1.1.1.1.1.2,hk.1.1.1.1.1.1.1.1.1.1.2,hk.1.1.1.1.1.1.1.1.1.2,hk.1.1.1.1.1.1.1.1.2,hk.1.1.1.1.1.1.1.2,hk.1.1.1.1.1.1.2,hk.1.1.1.1.1.2,hk.1.1.1.1.2⟩))),(zr (Kd.R_mono HO307.out (fun _ hk=>⟨hk.1.1.1.2,hk.1.1.2,hk.1.2,hk.2,hk.1.1.1.1.1.1.1.1.1.1.1.1,hk.1.1.1.1.1.1.1.1.1.1.1.2,hk.1.1.1.1.1.1.1.1.1.1.2,hk.1.1.1.1.1.1.1.1.1.2,hk.1.1.1.1.1.1.1.1.2,hk.1.1.1.1.1.1.1.2,hk.1.1.1.1.1.1.2,hk.1.1.1.1.1.2,hk.1.1.1.1.2⟩))),(zr (Kd.R_mono HO_242000.out (fun _ hk=>⟨hk.1.1.1.1.1.2,hk.1.1.1.1.2,hk.1.1.1.2,hk.1.1.2,hk.1.2,hk.2,hk.1.1.1.1.1.1.1,hk.1.1.1.1.1.1.2.1,hk.1.1.1.1.1.1.2.2.1,hk.1.1.1.1.1.1.2.2.2.1,hk.1.1.1.1.1.1.2.2.2.2.1,hk.1.1.1.1.1.1.2.2.2.2.2.1,hk.1.1.1.1.1.1.2.2.2.2.2.2⟩))),(zr (Kd.R_mono HO_242001.out (fun _ hk=>⟨hk.1.1.1.1.1.2,hk.1.1.1.1.2,hk.1.1.1.2,hk.1.1.2,hk.1.2,hk.2,hk.1.1.1.1.1.1.1,hk.1.1.1.1.1.1.2.1,hk.1.1.1.1.1.1.2.2.1,hk.1.1.1.1.1.1.2.2.2.1,hk.1.1.1.1.1.1.2.2.2.2.1,hk.1.1.1.1.1.1.2.2.2.2.2.1,hk.1.1.1.1.1.1.2.2.2.2.2.2⟩))),(zr (Kd.R_mono HO_249000.out (fun _ hk=>⟨hk.1.1.1.1.1.2,hk.1.1.1.1.2,hk.1.1.1.2,hk.1.1.2,hk.1.2,hk.2,hk.1.1.1.1.1.1.1,hk.1.1.1.1.1.1.2.1,hk.1.1.1.1.1.1.2.2.1,hk.1.1.1.1.1.1.2.2.2.1,hk.1.1.1.1.1.1.2.2.2.2.1,hk.1.1.1.1.1.1.2.2.2.2.2.1,hk.1.1.1.1.1.1.2.2.2.2.2.2⟩))),(zr (Kd.R_mono HO_249001.out (fun _ hk=>⟨hk.1.1.1.1.1.2,hk.1.1.1.1.2,hk.1.1.1.2,hk.1.1.2,hk.1.2,hk.2,hk.1.1.1.1.1.1.1,hk.1.1.1.1.1.1.2.1,hk.1.1.1.1.1.1.2.2.1,hk.1.1.1.1.1.1.2.2.2.1,hk.1.1.1.1.1.1.2.2.2.2.1,hk.1.1.1.1.1.1.2.2.2.2.2.1,hk.1.1.1.1.1.1.2.2.2.2.2.2⟩))),(zr (Kd.R_mono HO_256000.out (fun _ hk=>⟨hk.1.1.1.1.1.2,hk.1.1.1.1.2,hk.1.1.1.2,hk.1.1.2,hk.1.2,hk.2,hk.1.1.1.1.1.1.1,hk.1.1.1.1.1.1.2.1,hk.1.1.1.1.1.1.2.2.1,hk.1.1.1.1.1.1.2.2.2.1,hk.1.1.1.1.1.1.2.2.2.2.1,hk.1.1.1.1.1.1.2.2.2.2.2.1,hk.1.1.1.1.1.1.2.2.2.2.2.2⟩))),(zr (Kd.R_mono HO_256001.out (fun _ hk=>⟨hk.1.1.1.1.1.2,hk.1.1.1.1.2,hk.1.1.1.2,hk.1.1.2,hk.1.2,hk.2,hk.1.1.1.1.1.1.1,hk.1.1.1.1.1.1.2.1,hk.1.1.1.1.1.1.2.2.1,hk.1.1.1.1.1.1.2.2.2.1,hk.1.1.1.1.1.1.2.2.2.2.1,hk.1.1.1.1.1.1.2.2.2.2.2.1,hk.1.1.1.1.1.1.2.2.2.2.2.2⟩))),(zr (Kd.R_mono HO_264000.out (fun _ hk=>⟨hk.1.1.1.1.1.2,hk.1.1.1.1.2,hk.1.1.1.2,hk.1.1.2,hk.1.2,hk.2,hk.1.1.1.1.1.1.1,hk.1.1.1.1.1.1.2.1,hk.1.1.1.1.1.1.2.2.1,hk.1.1.1.1.1.1.2.2.2.1,hk.1.1.1.1.1.1.2.2.2.2.1,hk.1.1.1.1.1.1.2.2.2.2.2.1,hk.1.1.1.1.1.1.2.2.2.2.2.2⟩))),(zr (Kd.R_mono HO_264001.out (fun _ hk=>⟨hk.1.1.1.1.1.2,hk.1.1.1.1.2,hk.1.1.1.2,hk.1.1.2,hk.1.2,hk.2,hk.1.1.1.1.1.1.1,hk.1.1.1.1.1.1.2.1,hk.1.1.1.1.1.1.2.2.1,hk.1.1.1.1.1.1.2.2.2.1,hk.1.1.1.1.1.1.2.2.2.2.1,hk.1.1.1.1.1.1.2.2.2.2.2.1,hk.1.1.1.1.1.1.2.2.2.2.2.2⟩))),(zb BK218.out),(zb BK219.out),(zb BK241.out),(zb BK248.out),(zb BK255.out),(zb BK263.out),(zb BK309.out),GW309.out,GE309.out,NB218_309.out,NB309_218.out,NB219_309.out,NB309_219.out,NB241_309.out,NB309_241.out,NB248_309.out,NB309_248.out,NB255_309.out,NB309_255.out,NB263_309.out,NB309_263.out,zl⟩)
               ·skip
                refine box_step ?hg (N:=15) ?hd (cs:=#[.slice none 0 0,.slice none 0 0]) (t:=49) ?hr ?_;(case hd=>rfl);(case hg=>rfl);(case hr=>first|(go_simp;done)|(go_simp;rfl))
                intro gb309 hg w187 hbox hb
                replace HO_242000:=zRb HO_242000 hb
                replace HO_242001:=zRb HO_242001 hb
                replace HO_249000:=zRb HO_249000 hb
                replace HO_249001:=zRb HO_249001 hb
                replace HO_256000:=zRb HO_256000 hb
                replace HO_256001:=zRb HO_256001 hb
                replace HO_264000:=zRb HO_264000 hb
                replace HO_264001:=zRb HO_264001 hb
                replace HO292:=zRb HO292 hb
                replace HO295:=zRb HO295 hb
                have BK309:=zm (hbox)
                have GW309:=zm ((by rw [hg];exact (below_size zl):w.heap.size≤gb309))
                have GE309:=GW309
                replace HB:=zm (below_step zl hb)
                have NB218_309:=zm (zl1 hg (zb BK218.out))
                have NB309_218:=zm (zl2 hg (zb BK218.out))
                replace BK218:=zbk BK218 hb
                have NB219_309:=zm (zl1 hg (zb BK219.out))
                have NB309_219:=zm (zl2 hg (zb BK219.out))
                replace BK219:=zbk BK219 hb
                have NB241_309:=zm (zl1 hg (zb BK241.out))
                have NB309_241:=zm (zl2 hg (zb BK241.out))
                replace BK241:=zbk BK241 hb
                have NB248_309:=zm (zl1 hg (zb BK248.out))
                have NB309_248:=zm (zl2 hg (zb BK248.out))
                replace BK248:=zbk BK248 hb
                have NB255_309:=zm (zl1 hg (zb BK255.out))
                have NB309_255:=zm (zl2 hg (zb BK255.out))
                replace BK255:=zbk BK255 hb
                have NB263_309:=zm (zl1 hg (zb BK263.out))
                have NB309_263:=zm (zl2 hg (zb BK263.out))
                replace BK263:=zbk BK263 hb
                clear hb hbox hg
                refine hK.out _ _ ⟨zcl BK218.out 0,zcl BK218.out 1,zcl BK219.out 0,zcl BK219.out 1⟩ (fun hHeld=>?_)
                clear hK K
                refine zO (some 15) ?_
                refine one_ (i:=3) (N:=some 98) (zA 11 271) rfl rfl (one_of HT_.out (by kernel_rfl)) (by decide) (fun K hK=>?_)
                refine goes_ Try.func25 (by kernel_rfl) rfl #[.agg #[.slice A1_0 l1_0.length c1_0,.slice A1_1 l1_1.length c1_1]] (by rfl) rfl rfl (by (try simp only [List.map_toArray,List.map_cons,List.map_nil]);first|done|rfl|(simp only [List.length_drop,List.length_take];rfl)) ?_
                with_reducible refine (laws_toSubstitution.calls kj115 _ _ l1_0 _ _ l1_1 t296 t299 _ ?side1 ?side2 ?side3 ?side4 A173.out).mono ?_
                (case side1=>exact zc HR1_0.out)
                (case side2=>exact HC1_0.out)
                (case side3=>exact zc HR1_1.out)
                (case side4=>exact HC1_1.out)
                rintro e w188 ⟨v297,v300,rfl,ho0,ho1,hb⟩
                refine ⟨_,rfl,?_⟩
                have HO298:=zm (Kd.R_lower (zn (zn (zn (zn (zn (zn (zn (zn (zn (zn ho0 (zr HO_242000.out)) (zr HO_242001.out)) (zr HO_249000.out)) (zr HO_249001.out)) (zr HO_256000.out)) (zr HO_256001.out)) (zr HO_264000.out)) (zr HO_264001.out)) (zr HO292.out)) (zr HO295.out)) (below_size zl))
                have HO301:=zm (Kd.R_lower (zn (zn (zn (zn (zn (zn (zn (zn (zn (zn ho1 (zr HO_242000.out)) (zr HO_242001.out)) (zr HO_249000.out)) (zr HO_249001.out)) (zr HO_256000.out)) (zr HO_256001.out)) (zr HO_264000.out)) (zr HO_264001.out)) (zr HO292.out)) (zr HO295.out)) (below_size zl))
                replace HO_242000:=(zO2 HO_242000 hb ho0 ho1)
                replace HO_242001:=(zO2 HO_242001 hb ho0 ho1)
                replace HO_249000:=(zO2 HO_249000 hb ho0 ho1)
                replace HO_249001:=(zO2 HO_249001 hb ho0 ho1)
                replace HO_256000:=(zO2 HO_256000 hb ho0 ho1)
                replace HO_256001:=(zO2 HO_256001 hb ho0 ho1)
                replace HO_264000:=(zO2 HO_264000 hb ho0 ho1)
                replace HO_264001:=(zO2 HO_264001 hb ho0 ho1)
                replace HO292:=(zO2 HO292 hb ho0 ho1)
                replace HO295:=(zO2 HO295 hb ho0 ho1)
                replace BK218:=zbk BK218 hb
                replace BK219:=zbk BK219 hb
                replace BK241:=zbk BK241 hb
                replace BK248:=zbk BK248 hb
                replace BK255:=zbk BK255 hb
                replace BK263:=zbk BK263 hb
                replace BK309:=zbk BK309 hb
                replace HB:=zm (below_step zl hb)
                (try clear hb ho0 ho1)
                obtain ⟨Ao189,co189,eo189⟩:=Kd.R_slice HO292.out
                (first|subst eo189|(injection eo189 with f1_ f2_ f3_;obtain rfl:=f1_.symm;obtain rfl:=f3_.symm))
                obtain ⟨Ao190,co190,eo190⟩:=Kd.R_slice HO295.out
                (first|subst eo190|(injection eo190 with f1_ f2_ f3_;obtain rfl:=f1_.symm;obtain rfl:=f3_.symm))
                obtain ⟨Ao191,co191,eo191⟩:=Kd.R_slice HO298.out
                (first|subst eo191|(injection eo191 with f1_ f2_ f3_;obtain rfl:=f1_.symm;obtain rfl:=f3_.symm))
                obtain ⟨Ao192,co192,eo192⟩:=Kd.R_slice HO301.out
                (first|subst eo192|(injection eo192 with f1_ f2_ f3_;obtain rfl:=f1_.symm;obtain rfl:=f3_.symm))
                refine hK.out _ _ ⟨zcl BK218.out 0,zcl BK218.out 1,zcl BK219.out 0,zcl BK219.out 1⟩ (fun hHeld=>?_)
                clear hK K
                refine zO (some 98) ?_
                refine one_ (i:=4) (N:=some 99) (zA 11 287) rfl rfl (one_of HT_.out (by kernel_rfl)) (by decide) (fun K hK=>?_)
                refine goes_ Try.func26 (by kernel_rfl) rfl #[.agg #[.slice Ao189 t290.length co189,.slice Ao190 t293.length co190],.agg #[.slice Ao191 t296.length co191,.slice Ao192 t299.length co192]] (by rfl) rfl rfl (by (try simp only [List.map_toArray,List.map_cons,List.map_nil]);first|done|rfl|(simp only [List.length_drop,List.length_take];rfl)) ?_
                with_reducible refine (impl_Compose.calls kj115 (fun k_=>some k_ = (.slice Ao189 t290.length co189:Value).ownBlock) _ _ t290 _ _ t293 (fun k_=>some k_ = (.slice Ao191 t296.length co191:Value).ownBlock) _ _ t296 _ _ t299 t302 t305 t308 _ ?side1 ?side2 ?side3 ?side4 ?side5 ?side6 A174.out).mono ?_
                (case side1=>exact Kd.R_V (Kd.R_tight rfl (Kd.R_types (Kd.R_types (Kd.R_types (Kd.R_types (Kd.R_types (Kd.R_types (Kd.R_types (HO292.out) BK218.out (by decide)) BK219.out (by decide)) BK241.out (by decide)) BK248.out (by decide)) BK255.out (by decide)) BK263.out (by decide)) BK309.out (by decide))))
                (case side2=>exact zk HO295.out)
                (case side3=>exact (Kd.R_reads' HO295.out).2.1)
                (case side4=>exact Kd.R_V (Kd.R_tight rfl (Kd.R_types (Kd.R_types (Kd.R_types (Kd.R_types (Kd.R_types (Kd.R_types (Kd.R_types (HO298.out) BK218.out (by decide)) BK219.out (by decide)) BK241.out (by decide)) BK248.out (by decide)) BK255.out (by decide)) BK263.out (by decide)) BK309.out (by decide))))
                (case side5=>exact zk HO301.out)
                (case side6=>exact (Kd.R_reads' HO301.out).2.1)
                rintro e w193 ⟨v303,v306,rfl,ho0,ho1,hb⟩
                refine ⟨_,rfl,?_⟩
                have HO304:=zm (Kd.R_lower (zn (zn (zn (zn (zn (zn (zn (zn (zn (zn (zn (zn (Kd.R_mono (ok':=fun k_=>zx v306 k_) ho0 (fun _ hk_=>hk_.2)) (zr HO_242000.out)) (zr HO_242001.out)) (zr HO_249000.out)) (zr HO_249001.out)) (zr HO_256000.out)) (zr HO_256001.out)) (zr HO_264000.out)) (zr HO_264001.out)) (zr HO292.out)) (zr HO295.out)) (zr HO298.out)) (zr HO301.out)) (below_size zl))
                have HO307:=zm (Kd.R_lower (zn (zn (zn (zn (zn (zn (zn (zn (zn (zn (zn (zn (Kd.R_mono (ok':=fun k_=>zx v303 k_) ho1 (fun _ hk_=>hk_.2)) (zr HO_242000.out)) (zr HO_242001.out)) (zr HO_249000.out)) (zr HO_249001.out)) (zr HO_256000.out)) (zr HO_256001.out)) (zr HO_264000.out)) (zr HO_264001.out)) (zr HO292.out)) (zr HO295.out)) (zr HO298.out)) (zr HO301.out)) (below_size zl))
                replace HO_242000:=(zO2 HO_242000 hb ho0 ho1)
                replace HO_242001:=(zO2 HO_242001 hb ho0 ho1)
                replace HO_249000:=(zO2 HO_249000 hb ho0 ho1)
                replace HO_249001:=(zO2 HO_249001 hb ho0 ho1)
                replace HO_256000:=(zO2 HO_256000 hb ho0 ho1)
                replace HO_256001:=(zO2 HO_256001 hb ho0 ho1)
                replace HO_264000:=(zO2 HO_264000 hb ho0 ho1)
                replace HO_264001:=(zO2 HO_264001 hb ho0 ho1)
                replace HO292:=(zO2 HO292 hb ho0 ho1)
                replace HO295:=(zO2 HO295 hb ho0 ho1)
                replace HO298:=(zO2 HO298 hb ho0 ho1)
                replace HO301:=(zO2 HO301 hb ho0 ho1)
                replace BK218:=zbk BK218 hb
                replace BK219:=zbk BK219 hb
                replace BK241:=zbk BK241 hb
                replace BK248:=zbk BK248 hb
                replace BK255:=zbk BK255 hb
                replace BK263:=zbk BK263 hb
                replace BK309:=zbk BK309 hb
                replace HB:=zm (below_step zl hb)
                (try clear hb ho0 ho1)
                refine hK.out _ _ ⟨zcl BK218.out 0,zcl BK218.out 1,zcl BK219.out 0,zcl BK219.out 1⟩ (fun hHeld=>?_)
                clear hK K
                refine zO (some 99) ?_
                refine zP 5 (some 94) (zA 11 319) (any_of HT_.out (by kernel_rfl)) ?_
                refine zP 6 (some 100) (zA 11 383) (any_of HT_.out (by kernel_rfl)) ?_
                refine zP 7 (some 101) (zA 11 511) (any_of HT_.out (by kernel_rfl)) ?_
                exact norm_ (by simp only [putAll,Act.put,List.setIfInBounds_toArray,List.set_cons_zero,List.set_cons_succ]) (hCont (.slice Ao189 t290.length co189,.slice Ao190 t293.length co190,.slice Ao191 t296.length co191,.slice Ao192 t299.length co192,v303,v306,gb309) _ ⟨hHeld,(zr (Kd.R_mono HO292.out (fun _ hk=>⟨hk.1.1.1.1.1.1.1.1.1.1.1.1,hk.1.1.1.2,hk.1.1.2,hk.1.2,hk.2,hk.1.1.1.1.1.1.1.1.1.1.1.2,hk.1.1.1.1.1.1.1.1.1.1.2,hk.1.1.1.1.1.1.1.1.1.2,hk.1.1.1.1.1.1.1.1.2,hk.1.1.1.1.1.1.1.2,hk.1.1.1.1.1.1.2,hk.1.1.1.1.1.2,hk.1.1.1.1.2⟩))),(zr (Kd.R_mono HO295.out (fun _ hk=>⟨hk.1.1.1.1.1.1.1.1.1.1.1.1,hk.1.1.1.2,hk.1.1.2,hk.1.2,hk.2,hk.1.1.1.1.1.1.1.1.1.1.1.2,hk.1.1.1.1.1.1.1.1.1.1.2,hk.1.1.1.1.1.1.1.1.1.2,hk.1.1.1.1.1.1.1.1.2,hk.1.1.1.1.1.1.1.2,hk.1.1.1.1.1.1.2,hk.1.1.1.1.1.2,hk.1.1.1.1.2⟩))),(zr (Kd.R_mono HO298.out (fun _ hk=>⟨hk.1.1.1.2,hk.1.1.2,hk.1.1.1.1.1.1.1.1.1.1.1.1,hk.1.2,hk.2,hk.1.1.1.1.1.1.1.1.1.1.1.2,hk.1.1.1.1.1.1.1.1.1.1.2,hk.1.1.1.1.1.1.1.1.1.2,hk.1.1.1.1.1.1.1.1.2,hk.1.1.1.1.1.1.1.2,hk.1.1.1.1.1.1.2,hk.1.1.1.1.1.2,hk.1.1.1.1.2⟩))),(zr (Kd.R_mono HO301.out (fun _ hk=>⟨hk.1.1.1.2,hk.1.1.2,hk.1.1.1.1.1.1.1.1.1.1.1.1,hk.1.2,hk.2,hk.1.1.1.1.1.1.1.1.1.1.1.2,hk.1.1.1.1.1.1.1.1.1.1.2,hk.1.1.1.1.1.1.1.1.1.2,hk.1.1.1.1.1.1.1.1.2,hk.1.1.1.1.1.1.1.2,hk.1.1.1.1.1.1.2,hk.1.1.1.1.1.2,hk.1.1.1.1.2⟩))),(zr (Kd.R_mono HO304.out (fun _ hk=>⟨hk.1.1.1.2,hk.1.1.2,hk.1.2,hk.2,hk.1.1.1.1.1.1.1.1.1.1.1.1,hk.1.1.1.1.1.1.1.1.1.1.1.2,hk.1.1.1.1.1.1.1.1.1.1.2,hk.1.1.1.1.1.1.1.1.1.2,hk.1.1.1.1.1.1.1.1.2,hk.1.1.1.1.1.1.1.2,hk.1.1.1.1.1.1.2,hk.1.1.1.1.1.2,hk.1.1.1.1.2⟩))),(zr (Kd.R_mono HO307.out (fun _ hk=>⟨hk.1.1.1.2,hk.1.1.2,hk.1.2,hk.2,hk.1.1.1.1.1.1.1.1.1.1.1.1,hk.1.1.1.1.1.1.1.1.1.1.1.2,hk.1.1.1.1.1.1.1.1.1.1.2,hk.1.1.1.1.1.1.1.1.1.2,hk.1.1.1.1.1.1.1.1.2,hk.1.1.1.1.1.1.1.2,hk.1.1.1.1.1.1.2,hk.1.1.1.1.1.2,hk.1.1.1.1.2⟩))),(zr (Kd.R_mono HO_242000.out (fun _ hk=>⟨hk.1.1.1.1.1.2,hk.1.1.1.1.2,hk.1.1.1.2,hk.1.1.2,hk.1.2,hk.2,hk.1.1.1.1.1.1.1,hk.1.1.1.1.1.1.2.1,hk.1.1.1.1.1.1.2.2.1,hk.1.1.1.1.1.1.2.2.2.1,hk.1.1.1.1.1.1.2.2.2.2.1,hk.1.1.1.1.1.1.2.2.2.2.2.1,hk.1.1.1.1.1.1.2.2.2.2.2.2⟩))),(zr (Kd.R_mono HO_242001.out (fun _ hk=>⟨hk.1.1.1.1.1.2,hk.1.1.1.1.2,hk.1.1.1.2,hk.1.1.2,hk.1.2,hk.2,hk.1.1.1.1.1.1.1,hk.1.1.1.1.1.1.2.1,hk.1.1.1.1.1.1.2.2.1,hk.1.1.1.1.1.1.2.2.2.1,hk.1.1.1.1.1.1.2.2.2.2.1,hk.1.1.1.1.1.1.2.2.2.2.2.1,hk.1.1.1.1.1.1.2.2.2.2.2.2⟩))),(zr (Kd.R_mono HO_249000.out (fun _ hk=>⟨hk.1.1.1.1.1.2,hk.1.1.1.1.2,hk.1.1.1.2,hk.1.1.2,hk.1.2,hk.2,hk.1.1.1.1.1.1.1,hk.1.1.1.1.1.1.2.1,hk.1.1.1.1.1.1.2.2.1,hk.1.1.1.1.1.1.2.2.2.1,hk.1.1.1.1.1.1.2.2.2.2.1,hk.1.1.1.1.1.1.2.2.2.2.2.1,hk.1.1.1.1.1.1.2.2.2.2.2.2⟩))),(zr (Kd.R_mono HO_249001.out (fun _ hk=>⟨hk.1.1.1.1.1.2,hk.1.1.1.1.2,hk.1.1.1.2,hk.1.1.2,hk.1.2,hk.2,hk.1.1.1.1.1.1.1,hk.1.1.1.1.1.1.2.1,hk.1.1.1.1.1.1.2.2.1,hk.1.1.1.1.1.1.2.2.2.1,hk.1.1.1.1.1.1.2.2.2.2.1,hk.1.1.1.1.1.1.2.2.2.2.2.1,hk.1.1.1.1.1.1.2.2.2.2.2.2⟩))),(zr (Kd.R_mono HO_256000.out (fun _ hk=>⟨hk.1.1.1.1.1.2,hk.1.1.1.1.2,hk.1.1.1.2,hk.1.1.2,hk.1.2,hk.2,hk.1.1.1.1.1.1.1,hk.1.1.1.1.1.1.2.1,hk.1.1.1.1.1.1.2.2.1,hk.1.1.1.1.1.1.2.2.2.1,hk.1.1.1.1.1.1.2.2.2.2.1,hk.1.1.1.1.1.1.2.2.2.2.2.1,hk.1.1.1.1.1.1.2.2.2.2.2.2⟩))),(zr (Kd.R_mono HO_256001.out (fun _ hk=>⟨hk.1.1.1.1.1.2,hk.1.1.1.1.2,hk.1.1.1.2,hk.1.1.2,hk.1.2,hk.2,hk.1.1.1.1.1.1.1,hk.1.1.1.1.1.1.2.1,hk.1.1.1.1.1.1.2.2.1,hk.1.1.1.1.1.1.2.2.2.1,hk.1.1.1.1.1.1.2.2.2.2.1,hk.1.1.1.1.1.1.2.2.2.2.2.1,hk.1.1.1.1.1.1.2.2.2.2.2.2⟩))),(zr (Kd.R_mono HO_264000.out (fun _ hk=>⟨hk.1.1.1.1.1.2,hk.1.1.1.1.2,hk.1.1.1.2,hk.1.1.2,hk.1.2,hk.2,hk.1.1.1.1.1.1.1,hk.1.1.1.1.1.1.2.1,hk.1.1.1.1.1.1.2.2.1,hk.1.1.1.1.1.1.2.2.2.1,hk.1.1.1.1.1.1.2.2.2.2.1,hk.1.1.1.1.1.1.2.2.2.2.2.1,hk.1.1.1.1.1.1.2.2.2.2.2.2⟩))),(zr (Kd.R_mono HO_264001.out (fun _ hk=>⟨hk.1.1.1.1.1.2,hk.1.1.1.1.2,hk.1.1.1.2,hk.1.1.2,hk.1.2,hk.2,hk.1.1.1.1.1.1.1,hk.1.1.1.1.1.1.2.1,hk.1.1.1.1.1.1.2.2.1,hk.1.1.1.1.1.1.2.2.2.1,hk.1.1.1.1.1.1.2.2.2.2.1,hk.1.1.1.1.1.1.2.2.2.2.2.1,hk.1.1.1.1.1.1.2.2.2.2.2.2⟩))),(zb BK218.out),(zb BK219.out),(zb BK241.out),(zb BK248.out),(zb BK255.out),(zb BK263.out),(zb BK309.out),GW309.out,GE309.out,NB218_309.out,NB309_218.out,NB219_309.out,NB309_219.out,NB241_309.out,NB309_241.out,NB248_309.out,NB309_248.out,NB255_309.out,NB309_255.out,NB263_309.out,NB309_263.out,zl⟩)
              ·skip
               refine box_step ?hg (N:=15) ?hd (cs:=#[.slice none 0 0,.slice none 0 0]) (t:=49) ?hr ?_;(case hd=>rfl);(case hg=>rfl);(case hr=>first|(go_simp;done)|(go_simp;rfl))
               intro gb309 hg w186 hbox hb
               replace HO_242000:=zRb HO_242000 hb
               replace HO_242001:=zRb HO_242001 hb
               replace HO_249000:=zRb HO_249000 hb
               replace HO_249001:=zRb HO_249001 hb
               replace HO_256000:=zRb HO_256000 hb
               replace HO_256001:=zRb HO_256001 hb
               replace HO_264000:=zRb HO_264000 hb
               replace HO_264001:=zRb HO_264001 hb
               have BK309:=zm (hbox)
               have GW309:=zm ((by rw [hg];exact (below_size zl):w.heap.size≤gb309))
               have GE309:=GW309
               replace HB:=zm (below_step zl hb)
               have NB218_309:=zm (zl1 hg (zb BK218.out))
               have NB309_218:=zm (zl2 hg (zb BK218.out))
               replace BK218:=zbk BK218 hb
               have NB219_309:=zm (zl1 hg (zb BK219.out))
               have NB309_219:=zm (zl2 hg (zb BK219.out))
               replace BK219:=zbk BK219 hb
               have NB241_309:=zm (zl1 hg (zb BK241.out))
               have NB309_241:=zm (zl2 hg (zb BK241.out))
               replace BK241:=zbk BK241 hb
               have NB248_309:=zm (zl1 hg (zb BK248.out))
               have NB309_248:=zm (zl2 hg (zb BK248.out))
               replace BK248:=zbk BK248 hb
               have NB255_309:=zm (zl1 hg (zb BK255.out))
               have NB309_255:=zm (zl2 hg (zb BK255.out))
               replace BK255:=zbk BK255 hb
               have NB263_309:=zm (zl1 hg (zb BK263.out))
               have NB309_263:=zm (zl2 hg (zb BK263.out))
               replace BK263:=zbk BK263 hb
               clear hb hbox hg
               refine hK.out _ _ ⟨zcl BK218.out 0,zcl BK218.out 1,zcl BK219.out 0,zcl BK219.out 1⟩ (fun hHeld=>?_)
               clear hK K
               refine zO (some 15) ?_
               refine one_ (i:=1) (N:=some 96) (zA 11 263) rfl rfl (one_of HT_.out (by kernel_rfl)) (by decide) (fun K hK=>?_)
               refine goes_ Try.func25 (by kernel_rfl) rfl #[.agg #[.slice A0_0 l0_0.length c0_0,.slice A0_1 l0_1.length c0_1]] (by rfl) rfl rfl (by (try simp only [List.map_toArray,List.map_cons,List.map_nil]);first|done|rfl|(simp only [List.length_drop,List.length_take];rfl)) ?_
               with_reducible refine (laws_toSubstitution.calls kj115 _ _ l0_0 _ _ l0_1 t290 t293 _ ?side1 ?side2 ?side3 ?side4 A172.out).mono ?_
               (case side1=>exact zc HR0_0.out)
               (case side2=>exact HC0_0.out)
               (case side3=>exact zc HR0_1.out)
               (case side4=>exact HC0_1.out)
               rintro e w187 ⟨v291,v294,rfl,ho0,ho1,hb⟩
               refine ⟨_,rfl,?_⟩
               have HO292:=zm (Kd.R_lower (zn (zn (zn (zn (zn (zn (zn (zn ho0 (zr HO_242000.out)) (zr HO_242001.out)) (zr HO_249000.out)) (zr HO_249001.out)) (zr HO_256000.out)) (zr HO_256001.out)) (zr HO_264000.out)) (zr HO_264001.out)) (below_size zl))
               have HO295:=zm (Kd.R_lower (zn (zn (zn (zn (zn (zn (zn (zn ho1 (zr HO_242000.out)) (zr HO_242001.out)) (zr HO_249000.out)) (zr HO_249001.out)) (zr HO_256000.out)) (zr HO_256001.out)) (zr HO_264000.out)) (zr HO_264001.out)) (below_size zl))
               replace HO_242000:=(zO2 HO_242000 hb ho0 ho1)
               replace HO_242001:=(zO2 HO_242001 hb ho0 ho1)
               replace HO_249000:=(zO2 HO_249000 hb ho0 ho1)
               replace HO_249001:=(zO2 HO_249001 hb ho0 ho1)
               replace HO_256000:=(zO2 HO_256000 hb ho0 ho1)
               replace HO_256001:=(zO2 HO_256001 hb ho0 ho1)
               replace HO_264000:=(zO2 HO_264000 hb ho0 ho1)
               replace HO_264001:=(zO2 HO_264001 hb ho0 ho1)
               replace BK218:=zbk BK218 hb
               replace BK219:=zbk BK219 hb
               replace BK241:=zbk BK241 hb
               replace BK248:=zbk BK248 hb
               replace BK255:=zbk BK255 hb
               replace BK263:=zbk BK263 hb
               replace BK309:=zbk BK309 hb
               replace HB:=zm (below_step zl hb)
               (try clear hb ho0 ho1)
               refine hK.out _ _ ⟨zcl BK218.out 0,zcl BK218.out 1,zcl BK219.out 0,zcl BK219.out 1⟩ (fun hHeld=>?_)
               clear hK K
               refine zO (some 96) ?_
               refine one_ (i:=3) (N:=some 98) (zA 11 271) rfl rfl (one_of HT_.out (by kernel_rfl)) (by decide) (fun K hK=>?_)
               refine goes_ Try.func25 (by kernel_rfl) rfl #[.agg #[.slice A1_0 l1_0.length c1_0,.slice A1_1 l1_1.length c1_1]] (by rfl) rfl rfl (by (try simp only [List.map_toArray,List.map_cons,List.map_nil]);first|done|rfl|(simp only [List.length_drop,List.length_take];rfl)) ?_
               with_reducible refine (laws_toSubstitution.calls kj115 _ _ l1_0 _ _ l1_1 t296 t299 _ ?side1 ?side2 ?side3 ?side4 A173.out).mono ?_
               (case side1=>exact zc HR1_0.out)
               (case side2=>exact HC1_0.out)
               (case side3=>exact zc HR1_1.out)
               (case side4=>exact HC1_1.out)
               rintro e w188 ⟨v297,v300,rfl,ho0,ho1,hb⟩
               refine ⟨_,rfl,?_⟩
               have HO298:=zm (Kd.R_lower (zn (zn (zn (zn (zn (zn (zn (zn (zn (zn ho0 (zr HO_242000.out)) (zr HO_242001.out)) (zr HO_249000.out)) (zr HO_249001.out)) (zr HO_256000.out)) (zr HO_256001.out)) (zr HO_264000.out)) (zr HO_264001.out)) (zr HO292.out)) (zr HO295.out)) (below_size zl))
               have HO301:=zm (Kd.R_lower (zn (zn (zn (zn (zn (zn (zn (zn (zn (zn ho1 (zr HO_242000.out)) (zr HO_242001.out)) (zr HO_249000.out)) (zr HO_249001.out)) (zr HO_256000.out)) (zr HO_256001.out)) (zr HO_264000.out)) (zr HO_264001.out)) (zr HO292.out)) (zr HO295.out)) (below_size zl))
               replace HO_242000:=(zO2 HO_242000 hb ho0 ho1)
               replace HO_242001:=(zO2 HO_242001 hb ho0 ho1)
               replace HO_249000:=(zO2 HO_249000 hb ho0 ho1)
               replace HO_249001:=(zO2 HO_249001 hb ho0 ho1)
               replace HO_256000:=(zO2 HO_256000 hb ho0 ho1)
               replace HO_256001:=(zO2 HO_256001 hb ho0 ho1)
               replace HO_264000:=(zO2 HO_264000 hb ho0 ho1)
               replace HO_264001:=(zO2 HO_264001 hb ho0 ho1)
               replace HO292:=(zO2 HO292 hb ho0 ho1)
               replace HO295:=(zO2 HO295 hb ho0 ho1)
               replace BK218:=zbk BK218 hb
               replace BK219:=zbk BK219 hb
               replace BK241:=zbk BK241 hb
               replace BK248:=zbk BK248 hb
               replace BK255:=zbk BK255 hb
               replace BK263:=zbk BK263 hb
               replace BK309:=zbk BK309 hb
               replace HB:=zm (below_step zl hb)
               (try clear hb ho0 ho1)
               obtain ⟨Ao189,co189,eo189⟩:=Kd.R_slice HO292.out
               (first|subst eo189|(injection eo189 with f1_ f2_ f3_;obtain rfl:=f1_.symm;obtain rfl:=f3_.symm))
               obtain ⟨Ao190,co190,eo190⟩:=Kd.R_slice HO295.out
               (first|subst eo190|(injection eo190 with f1_ f2_ f3_;obtain rfl:=f1_.symm;obtain rfl:=f3_.symm))
               obtain ⟨Ao191,co191,eo191⟩:=Kd.R_slice HO298.out
               (first|subst eo191|(injection eo191 with f1_ f2_ f3_;obtain rfl:=f1_.symm;obtain rfl:=f3_.symm))
               obtain ⟨Ao192,co192,eo192⟩:=Kd.R_slice HO301.out
               (first|subst eo192|(injection eo192 with f1_ f2_ f3_;obtain rfl:=f1_.symm;obtain rfl:=f3_.symm))
               refine hK.out _ _ ⟨zcl BK218.out 0,zcl BK218.out 1,zcl BK219.out 0,zcl BK219.out 1⟩ (fun hHeld=>?_)
               clear hK K
               refine zO (some 98) ?_
               refine one_ (i:=4) (N:=some 99) (zA 11 287) rfl rfl (one_of HT_.out (by kernel_rfl)) (by decide) (fun K hK=>?_)
               refine goes_ Try.func26 (by kernel_rfl) rfl #[.agg #[.slice Ao189 t290.length co189,.slice Ao190 t293.length co190],.agg #[.slice Ao191 t296.length co191,.slice Ao192 t299.length co192]] (by rfl) rfl rfl (by (try simp only [List.map_toArray,List.map_cons,List.map_nil]);first|done|rfl|(simp only [List.length_drop,List.length_take];rfl)) ?_
               with_reducible refine (impl_Compose.calls kj115 (fun k_=>some k_ = (.slice Ao189 t290.length co189:Value).ownBlock) _ _ t290 _ _ t293 (fun k_=>some k_ = (.slice Ao191 t296.length co191:Value).ownBlock) _ _ t296 _ _ t299 t302 t305 t308 _ ?side1 ?side2 ?side3 ?side4 ?side5 ?side6 A174.out).mono ?_
               (case side1=>exact Kd.R_V (Kd.R_tight rfl (Kd.R_types (Kd.R_types (Kd.R_types (Kd.R_types (Kd.R_types (Kd.R_types (Kd.R_types (HO292.out) BK218.out (by decide)) BK219.out (by decide)) BK241.out (by decide)) BK248.out (by decide)) BK255.out (by decide)) BK263.out (by decide)) BK309.out (by decide))))
               (case side2=>exact zk HO295.out)
               (case side3=>exact (Kd.R_reads' HO295.out).2.1)
               (case side4=>exact Kd.R_V (Kd.R_tight rfl (Kd.R_types (Kd.R_types (Kd.R_types (Kd.R_types (Kd.R_types (Kd.R_types (Kd.R_types (HO298.out) BK218.out (by decide)) BK219.out (by decide)) BK241.out (by decide)) BK248.out (by decide)) BK255.out (by decide)) BK263.out (by decide)) BK309.out (by decide))))
               (case side5=>exact zk HO301.out)
               (case side6=>exact (Kd.R_reads' HO301.out).2.1)
               rintro e w193 ⟨v303,v306,rfl,ho0,ho1,hb⟩
               refine ⟨_,rfl,?_⟩
               have HO304:=zm (Kd.R_lower (zn (zn (zn (zn (zn (zn (zn (zn (zn (zn (zn (zn (Kd.R_mono (ok':=fun k_=>zx v306 k_) ho0 (fun _ hk_=>hk_.2)) (zr HO_242000.out)) (zr HO_242001.out)) (zr HO_249000.out)) (zr HO_249001.out)) (zr HO_256000.out)) (zr HO_256001.out)) (zr HO_264000.out)) (zr HO_264001.out)) (zr HO292.out)) (zr HO295.out)) (zr HO298.out)) (zr HO301.out)) (below_size zl))
               have HO307:=zm (Kd.R_lower (zn (zn (zn (zn (zn (zn (zn (zn (zn (zn (zn (zn (Kd.R_mono (ok':=fun k_=>zx v303 k_) ho1 (fun _ hk_=>hk_.2)) (zr HO_242000.out)) (zr HO_242001.out)) (zr HO_249000.out)) (zr HO_249001.out)) (zr HO_256000.out)) (zr HO_256001.out)) (zr HO_264000.out)) (zr HO_264001.out)) (zr HO292.out)) (zr HO295.out)) (zr HO298.out)) (zr HO301.out)) (below_size zl))
               replace HO_242000:=(zO2 HO_242000 hb ho0 ho1)
               replace HO_242001:=(zO2 HO_242001 hb ho0 ho1)
               replace HO_249000:=(zO2 HO_249000 hb ho0 ho1)
               replace HO_249001:=(zO2 HO_249001 hb ho0 ho1)
               replace HO_256000:=(zO2 HO_256000 hb ho0 ho1)
               replace HO_256001:=(zO2 HO_256001 hb ho0 ho1)
               replace HO_264000:=(zO2 HO_264000 hb ho0 ho1)
               replace HO_264001:=(zO2 HO_264001 hb ho0 ho1)
               replace HO292:=(zO2 HO292 hb ho0 ho1)
               replace HO295:=(zO2 HO295 hb ho0 ho1)
               replace HO298:=(zO2 HO298 hb ho0 ho1)
               replace HO301:=(zO2 HO301 hb ho0 ho1)
               replace BK218:=zbk BK218 hb
               replace BK219:=zbk BK219 hb
               replace BK241:=zbk BK241 hb
               replace BK248:=zbk BK248 hb
               replace BK255:=zbk BK255 hb
               replace BK263:=zbk BK263 hb
               replace BK309:=zbk BK309 hb
               replace HB:=zm (below_step zl hb)
               (try clear hb ho0 ho1)
               refine hK.out _ _ ⟨zcl BK218.out 0,zcl BK218.out 1,zcl BK219.out 0,zcl BK219.out 1⟩ (fun hHeld=>?_)
               clear hK K
               refine zO (some 99) ?_
               refine zP 5 (some 94) (zA 11 319) (any_of HT_.out (by kernel_rfl)) ?_
               refine zP 6 (some 100) (zA 11 383) (any_of HT_.out (by kernel_rfl)) ?_
               refine zP 7 (some 101) (zA 11 511) (any_of HT_.out (by kernel_rfl)) ?_
               exact norm_ (by simp only [putAll,Act.put,List.setIfInBounds_toArray,List.set_cons_zero,List.set_cons_succ]) (hCont (.slice Ao189 t290.length co189,.slice Ao190 t293.length co190,.slice Ao191 t296.length co191,.slice Ao192 t299.length co192,v303,v306,gb309) _ ⟨hHeld,(zr (Kd.R_mono HO292.out (fun _ hk=>⟨hk.1.1.1.1.1.1.1.1.1.1.1.1,hk.1.1.1.2,hk.1.1.2,hk.1.2,hk.2,hk.1.1.1.1.1.1.1.1.1.1.1.2,hk.1.1.1.1.1.1.1.1.1.1.2,hk.1.1.1.1.1.1.1.1.1.2,hk.1.1.1.1.1.1.1.1.2,hk.1.1.1.1.1.1.1.2,hk.1.1.1.1.1.1.2,hk.1.1.1.1.1.2,hk.1.1.1.1.2⟩))),(zr (Kd.R_mono HO295.out (fun _ hk=>⟨hk.1.1.1.1.1.1.1.1.1.1.1.1,hk.1.1.1.2,hk.1.1.2,hk.1.2,hk.2,hk.1.1.1.1.1.1.1.1.1.1.1.2,hk.1.1.1.1.1.1.1.1.1.1.2,hk.1.1.1.1.1.1.1.1.1.2,hk.1.1.1.1.1.1.1.1.2,hk.1.1.1.1.1.1.1.2,hk.1.1.1.1.1.1.2,hk.1.1.1.1.1.2,hk.1.1.1.1.2⟩))),(zr (Kd.R_mono HO298.out (fun _ hk=>⟨hk.1.1.1.2,hk.1.1.2,hk.1.1.1.1.1.1.1.1.1.1.1.1,hk.1.2,hk.2,hk.1.1.1.1.1.1.1.1.1.1.1.2,hk.1.1.1.1.1.1.1.1.1.1.2,hk.1.1.1.1.1.1.1.1.1.2,hk.1.1.1.1.1.1.1.1.2,hk.1.1.1.1.1.1.1.2,hk.1.1.1.1.1.1.2,hk.1.1.1.1.1.2,hk.1.1.1.1.2⟩))),(zr (Kd.R_mono HO301.out (fun _ hk=>⟨hk.1.1.1.2,hk.1.1.2,hk.1.1.1.1.1.1.1.1.1.1.1.1,hk.1.2,hk.2,hk.1.1.1.1.1.1.1.1.1.1.1.2,hk.1.1.1.1.1.1.1.1.1.1.2,hk.1.1.1.1.1.1.1.1.1.2,hk.1.1.1.1.1.1.1.1.2,hk.1.1.1.1.1.1.1.2,hk.1.1.1.1.1.1.2,hk.1.1.1.1.1.2,hk.1.1.1.1.2⟩))),(zr (Kd.R_mono HO304.out (fun _ hk=>⟨hk.1.1.1.2,hk.1.1.2,hk.1.2,hk.2,hk.1.1.1.1.1.1.1.1.1.1.1.1,hk.1.1.1.1.1.1.1.1.1.1.1.2,hk.1.1.1.1.1.1.1.1.1.1.2,hk.1.1.1.1.1.1.1.1.1.2,hk.1.1.1.1.1.1.1.1.2,hk.1.1.1.1.1.1.1.2,hk.1.1.1.1.1.1.2,hk.1.1.1.1.1.2,hk.1.1.1.1.2⟩))),(zr (Kd.R_mono HO307.out (fun _ hk=>⟨hk.1.1.1.2,hk.1.1.2,hk.1.2,hk.2,hk.1.1.1.1.1.1.1.1.1.1.1.1,hk.1.1.1.1.1.1.1.1.1.1.1.2,hk.1.1.1.1.1.1.1.1.1.1.2,hk.1.1.1.1.1.1.1.1.1.2,hk.1.1.1.1.1.1.1.1.2,hk.1.1.1.1.1.1.1.2,hk.1.1.1.1.1.1.2,hk.1.1.1.1.1.2,hk.1.1.1.1.2⟩))),(zr (Kd.R_mono HO_242000.out (fun _ hk=>⟨hk.1.1.1.1.1.2,hk.1.1.1.1.2,hk.1.1.1.2,hk.1.1.2,hk.1.2,hk.2,hk.1.1.1.1.1.1.1,hk.1.1.1.1.1.1.2.1,hk.1.1.1.1.1.1.2.2.1,hk.1.1.1.1.1.1.2.2.2.1,hk.1.1.1.1.1.1.2.2.2.2.1,hk.1.1.1.1.1.1.2.2.2.2.2.1,hk.1.1.1.1.1.1.2.2.2.2.2.2⟩))),(zr (Kd.R_mono HO_242001.out (fun _ hk=>⟨hk.1.1.1.1.1.2,hk.1.1.1.1.2,hk.1.1.1.2,hk.1.1.2,hk.1.2,hk.2,hk.1.1.1.1.1.1.1,hk.1.1.1.1.1.1.2.1,hk.1.1.1.1.1.1.2.2.1,hk.1.1.1.1.1.1.2.2.2.1,hk.1.1.1.1.1.1.2.2.2.2.1,hk.1.1.1.1.1.1.2.2.2.2.2.1,hk.1.1.1.1.1.1.2.2.2.2.2.2⟩))),(zr (Kd.R_mono HO_249000.out (fun _ hk=>⟨hk.1.1.1.1.1.2,hk.1.1.1.1.2,hk.1.1.1.2,hk.1.1.2,hk.1.2,hk.2,hk.1.1.1.1.1.1.1,hk.1.1.1.1.1.1.2.1,hk.1.1.1.1.1.1.2.2.1,hk.1.1.1.1.1.1.2.2.2.1,hk.1.1.1.1.1.1.2.2.2.2.1,hk.1.1.1.1.1.1.2.2.2.2.2.1,hk.1.1.1.1.1.1.2.2.2.2.2.2⟩))),(zr (Kd.R_mono HO_249001.out (fun _ hk=>⟨hk.1.1.1.1.1.2,hk.1.1.1.1.2,hk.1.1.1.2,hk.1.1.2,hk.1.2,hk.2,hk.1.1.1.1.1.1.1,hk.1.1.1.1.1.1.2.1,hk.1.1.1.1.1.1.2.2.1,hk.1.1.1.1.1.1.2.2.2.1,hk.1.1.1.1.1.1.2.2.2.2.1,hk.1.1.1.1.1.1.2.2.2.2.2.1,hk.1.1.1.1.1.1.2.2.2.2.2.2⟩))),(zr (Kd.R_mono HO_256000.out (fun _ hk=>⟨hk.1.1.1.1.1.2,hk.1.1.1.1.2,hk.1.1.1.2,hk.1.1.2,hk.1.2,hk.2,hk.1.1.1.1.1.1.1,hk.1.1.1.1.1.1.2.1,hk.1.1.1.1.1.1.2.2.1,hk.1.1.1.1.1.1.2.2.2.1,hk.1.1.1.1.1.1.2.2.2.2.1,hk.1.1.1.1.1.1.2.2.2.2.2.1,hk.1.1.1.1.1.1.2.2.2.2.2.2⟩))),(zr (Kd.R_mono HO_256001.out (fun _ hk=>⟨hk.1.1.1.1.1.2,hk.1.1.1.1.2,hk.1.1.1.2,hk.1.1.2,hk.1.2,hk.2,hk.1.1.1.1.1.1.1,hk.1.1.1.1.1.1.2.1,hk.1.1.1.1.1.1.2.2.1,hk.1.1.1.1.1.1.2.2.2.1,hk.1.1.1.1.1.1.2.2.2.2.1,hk.1.1.1.1.1.1.2.2.2.2.2.1,hk.1.1.1.1.1.1.2.2.2.2.2.2⟩))),(zr (Kd.R_mono HO_264000.out (fun _ hk=>⟨hk.1.1.1.1.1.2,hk.1.1.1.1.2,hk.1.1.1.2,hk.1.1.2,hk.1.2,hk.2,hk.1.1.1.1.1.1.1,hk.1.1.1.1.1.1.2.1,hk.1.1.1.1.1.1.2.2.1,hk.1.1.1.1.1.1.2.2.2.1,hk.1.1.1.1.1.1.2.2.2.2.1,hk.1.1.1.1.1.1.2.2.2.2.2.1,hk.1.1.1.1.1.1.2.2.2.2.2.2⟩))),(zr (Kd.R_mono HO_264001.out (fun _ hk=>⟨hk.1.1.1.1.1.2,hk.1.1.1.1.2,hk.1.1.1.2,hk.1.1.2,hk.1.2,hk.2,hk.1.1.1.1.1.1.1,hk.1.1.1.1.1.1.2.1,hk.1.1.1.1.1.1.2.2.1,hk.1.1.1.1.1.1.2.2.2.1,hk.1.1.1.1.1.1.2.2.2.2.1,hk.1.1.1.1.1.1.2.2.2.2.2.1,hk.1.1.1.1.1.1.2.2.2.2.2.2⟩))),(zb BK218.out),(zb BK219.out),(zb BK241.out),(zb BK248.out),(zb BK255.out),(zb BK263.out),(zb BK309.out),GW309.out,GE309.out,NB218_309.out,NB309_218.out,NB219_309.out,NB309_219.out,NB241_309.out,NB309_241.out,NB248_309.out,NB309_248.out,NB255_309.out,NB309_255.out,NB263_309.out,NB309_263.out,zl⟩)
             rintro ⟨v291,v294,v297,v300,v303,v306,gb309⟩ w194 ⟨hS_,h0_,h1_,h2_,h3_,h4_,h5_,h6_,h7_,h8_,h9_,h10_,h11_,h12_,h13_,h14_,h15_,h16_,h17_,h18_,h19_,h20_,h21_,h22_,h23_,h24_,h25_,h26_,h27_,h28_,h29_,h30_,h31_,h32_,h33_,h34_,h35_⟩
             have n0_:Aside0 (Kd.R (Kd.int .i64) 3 w194 w.heap.size (fun k_=>zx v294 k_∧zx v297 k_∧zx v300 k_∧zx v303 k_∧zx v306 k_∧zx (sv Ao43 t234 co43) k_∧zx (sv Ao45 t237 co45) k_∧zx (sv Ao51 t280 co51) k_∧zx (sv Ao56 t281 co56) k_∧zx (sv Ao61 t283 co61) k_∧zx (sv Ao67 t284 co67) k_∧zx (sv Ao73 t256 co73) k_∧zx (sv Ao80 t259 co80) k_) v291 t290):=⟨h0_⟩
             have n1_:Aside0 (Kd.R (Kd.int .i64) 3 w194 w.heap.size (fun k_=>zx v291 k_∧zx v297 k_∧zx v300 k_∧zx v303 k_∧zx v306 k_∧zx (sv Ao43 t234 co43) k_∧zx (sv Ao45 t237 co45) k_∧zx (sv Ao51 t280 co51) k_∧zx (sv Ao56 t281 co56) k_∧zx (sv Ao61 t283 co61) k_∧zx (sv Ao67 t284 co67) k_∧zx (sv Ao73 t256 co73) k_∧zx (sv Ao80 t259 co80) k_) v294 t293):=⟨h1_⟩
             have n2_:Aside0 (Kd.R (Kd.int .i64) 3 w194 w.heap.size (fun k_=>zx v291 k_∧zx v294 k_∧zx v300 k_∧zx v303 k_∧zx v306 k_∧zx (sv Ao43 t234 co43) k_∧zx (sv Ao45 t237 co45) k_∧zx (sv Ao51 t280 co51) k_∧zx (sv Ao56 t281 co56) k_∧zx (sv Ao61 t283 co61) k_∧zx (sv Ao67 t284 co67) k_∧zx (sv Ao73 t256 co73) k_∧zx (sv Ao80 t259 co80) k_) v297 t296):=⟨h2_⟩
             have n3_:Aside0 (Kd.R (Kd.int .i64) 3 w194 w.heap.size (fun k_=>zx v291 k_∧zx v294 k_∧zx v297 k_∧zx v303 k_∧zx v306 k_∧zx (sv Ao43 t234 co43) k_∧zx (sv Ao45 t237 co45) k_∧zx (sv Ao51 t280 co51) k_∧zx (sv Ao56 t281 co56) k_∧zx (sv Ao61 t283 co61) k_∧zx (sv Ao67 t284 co67) k_∧zx (sv Ao73 t256 co73) k_∧zx (sv Ao80 t259 co80) k_) v300 t299):=⟨h3_⟩
             have n4_:Aside0 (Kd.R (Kd.int .i64) 3 w194 w.heap.size (fun k_=>zx v291 k_∧zx v294 k_∧zx v297 k_∧zx v300 k_∧zx v306 k_∧zx (sv Ao43 t234 co43) k_∧zx (sv Ao45 t237 co45) k_∧zx (sv Ao51 t280 co51) k_∧zx (sv Ao56 t281 co56) k_∧zx (sv Ao61 t283 co61) k_∧zx (sv Ao67 t284 co67) k_∧zx (sv Ao73 t256 co73) k_∧zx (sv Ao80 t259 co80) k_) v303 t302):=⟨h4_⟩
             have n5_:Aside0 (Kd.R (Kd.int .i64) 3 w194 w.heap.size (fun k_=>zx v291 k_∧zx v294 k_∧zx v297 k_∧zx v300 k_∧zx v303 k_∧zx (sv Ao43 t234 co43) k_∧zx (sv Ao45 t237 co45) k_∧zx (sv Ao51 t280 co51) k_∧zx (sv Ao56 t281 co56) k_∧zx (sv Ao61 t283 co61) k_∧zx (sv Ao67 t284 co67) k_∧zx (sv Ao73 t256 co73) k_∧zx (sv Ao80 t259 co80) k_) v306 t305):=⟨h5_⟩
             have n6_:Aside0 (Kd.R (Kd.int .i64) 3 w194 w.heap.size (fun k_=>zx v291 k_∧zx v294 k_∧zx v297 k_∧zx v300 k_∧zx v303 k_∧zx v306 k_∧zx (sv Ao45 t237 co45) k_∧zx (sv Ao51 t280 co51) k_∧zx (sv Ao56 t281 co56) k_∧zx (sv Ao61 t283 co61) k_∧zx (sv Ao67 t284 co67) k_∧zx (sv Ao73 t256 co73) k_∧zx (sv Ao80 t259 co80) k_) (.slice Ao43 t234.length co43) t234):=⟨h6_⟩
             have n7_:Aside0 (Kd.R (Kd.int .i64) 3 w194 w.heap.size (fun k_=>zx v291 k_∧zx v294 k_∧zx v297 k_∧zx v300 k_∧zx v303 k_∧zx v306 k_∧zx (sv Ao43 t234 co43) k_∧zx (sv Ao51 t280 co51) k_∧zx (sv Ao56 t281 co56) k_∧zx (sv Ao61 t283 co61) k_∧zx (sv Ao67 t284 co67) k_∧zx (sv Ao73 t256 co73) k_∧zx (sv Ao80 t259 co80) k_) (.slice Ao45 t237.length co45) t237):=⟨h7_⟩
             have n8_:Aside0 (Kd.R (Kd.int .i64) 3 w194 w.heap.size (fun k_=>zx v291 k_∧zx v294 k_∧zx v297 k_∧zx v300 k_∧zx v303 k_∧zx v306 k_∧zx (sv Ao43 t234 co43) k_∧zx (sv Ao45 t237 co45) k_∧zx (sv Ao56 t281 co56) k_∧zx (sv Ao61 t283 co61) k_∧zx (sv Ao67 t284 co67) k_∧zx (sv Ao73 t256 co73) k_∧zx (sv Ao80 t259 co80) k_) (.slice Ao51 t280.length co51) t280):=⟨h8_⟩
             have n9_:Aside0 (Kd.R (Kd.int .i64) 3 w194 w.heap.size (fun k_=>zx v291 k_∧zx v294 k_∧zx v297 k_∧zx v300 k_∧zx v303 k_∧zx v306 k_∧zx (sv Ao43 t234 co43) k_∧zx (sv Ao45 t237 co45) k_∧zx (sv Ao51 t280 co51) k_∧zx (sv Ao61 t283 co61) k_∧zx (sv Ao67 t284 co67) k_∧zx (sv Ao73 t256 co73) k_∧zx (sv Ao80 t259 co80) k_) (.slice Ao56 t281.length co56) t281):=⟨h9_⟩
             have n10_:Aside0 (Kd.R (Kd.int .i64) 3 w194 w.heap.size (fun k_=>zx v291 k_∧zx v294 k_∧zx v297 k_∧zx v300 k_∧zx v303 k_∧zx v306 k_∧zx (sv Ao43 t234 co43) k_∧zx (sv Ao45 t237 co45) k_∧zx (sv Ao51 t280 co51) k_∧zx (sv Ao56 t281 co56) k_∧zx (sv Ao67 t284 co67) k_∧zx (sv Ao73 t256 co73) k_∧zx (sv Ao80 t259 co80) k_) (.slice Ao61 t283.length co61) t283):=⟨h10_⟩
             have n11_:Aside0 (Kd.R (Kd.int .i64) 3 w194 w.heap.size (fun k_=>zx v291 k_∧zx v294 k_∧zx v297 k_∧zx v300 k_∧zx v303 k_∧zx v306 k_∧zx (sv Ao43 t234 co43) k_∧zx (sv Ao45 t237 co45) k_∧zx (sv Ao51 t280 co51) k_∧zx (sv Ao56 t281 co56) k_∧zx (sv Ao61 t283 co61) k_∧zx (sv Ao73 t256 co73) k_∧zx (sv Ao80 t259 co80) k_) (.slice Ao67 t284.length co67) t284):=⟨h11_⟩
             have n12_:Aside0 (Kd.R (Kd.int .i64) 3 w194 w.heap.size (fun k_=>zx v291 k_∧zx v294 k_∧zx v297 k_∧zx v300 k_∧zx v303 k_∧zx v306 k_∧zx (sv Ao43 t234 co43) k_∧zx (sv Ao45 t237 co45) k_∧zx (sv Ao51 t280 co51) k_∧zx (sv Ao56 t281 co56) k_∧zx (sv Ao61 t283 co61) k_∧zx (sv Ao67 t284 co67) k_∧zx (sv Ao80 t259 co80) k_) (.slice Ao73 t256.length co73) t287):=⟨h12_⟩
             have n13_:Aside0 (Kd.R (Kd.int .i64) 3 w194 w.heap.size (fun k_=>zx v291 k_∧zx v294 k_∧zx v297 k_∧zx v300 k_∧zx v303 k_∧zx v306 k_∧zx (sv Ao43 t234 co43) k_∧zx (sv Ao45 t237 co45) k_∧zx (sv Ao51 t280 co51) k_∧zx (sv Ao56 t281 co56) k_∧zx (sv Ao61 t283 co61) k_∧zx (sv Ao67 t284 co67) k_∧zx (sv Ao73 t256 co73) k_) (.slice Ao80 t259.length co80) t288):=⟨h13_⟩
             have n14_:Aside0 (w194.heap[gb218]? = some (.cells #[.slice A0_0 l0_0.length c0_0,.slice A0_1 l0_1.length c0_1] 47 (0,0))):=⟨h14_⟩
             have n15_:Aside0 (w194.heap[gb219]? = some (.cells #[.slice A1_0 l1_0.length c1_0,.slice A1_1 l1_1.length c1_1] 47 (0,0))):=⟨h15_⟩
             have n16_:Aside0 (w194.heap[gb241]? = some (.cells #[.slice Ao43 t234.length co43,.slice Ao45 t237.length co45] 49 (0,0))):=⟨h16_⟩
             have n17_:Aside0 (w194.heap[gb248]? = some (.cells #[.slice Ao51 t280.length co51,.slice Ao56 t281.length co56] 49 (0,0))):=⟨h17_⟩
             have n18_:Aside0 (w194.heap[gb255]? = some (.cells #[.slice Ao61 t283.length co61,.slice Ao67 t284.length co67] 49 (0,0))):=⟨h18_⟩
             have n19_:Aside0 (w194.heap[gb263]? = some (.cells #[.slice Ao73 t256.length co73,.slice Ao80 t259.length co80] 49 (0,0))):=⟨h19_⟩
             have n20_:Aside0 (w194.heap[gb309]? = some (.cells #[.slice none 0 0,.slice none 0 0] 49 (0,0))):=⟨h20_⟩
             have n21_:Aside0 (w.heap.size≤gb309):=⟨h21_⟩
             have n22_:Aside0 (w.heap.size≤gb309):=⟨h22_⟩
             have n23_:Aside0 (gb218≠gb309):=⟨h23_⟩
             have n24_:Aside0 (gb309≠gb218):=⟨h24_⟩
             have n25_:Aside0 (gb219≠gb309):=⟨h25_⟩
             have n26_:Aside0 (gb309≠gb219):=⟨h26_⟩
             have n27_:Aside0 (gb241≠gb309):=⟨h27_⟩
             have n28_:Aside0 (gb309≠gb241):=⟨h28_⟩
             have n29_:Aside0 (gb248≠gb309):=⟨h29_⟩
             have n30_:Aside0 (gb309≠gb248):=⟨h30_⟩
             have n31_:Aside0 (gb255≠gb309):=⟨h31_⟩
             have n32_:Aside0 (gb309≠gb255):=⟨h32_⟩
             have n33_:Aside0 (gb263≠gb309):=⟨h33_⟩
             have n34_:Aside0 (gb309≠gb263):=⟨h34_⟩
             have n35_:Aside0 (Below w.heap.size w w194):=⟨h35_⟩
             clear HO_242000
             clear HO_242001
             clear HO_249000
             clear HO_249001
             clear HO_256000
             clear HO_256001
             clear HO_264000
             clear HO_264001
             clear BK218
             clear BK219
             clear BK241
             clear BK248
             clear BK255
             clear BK263
             clear HB
             clear h0_ h1_ h2_ h3_ h4_ h5_ h6_ h7_ h8_ h9_ h10_ h11_ h12_ h13_ h14_ h15_ h16_ h17_ h18_ h19_ h20_ h21_ h22_ h23_ h24_ h25_ h26_ h27_ h28_ h29_ h30_ h31_ h32_ h33_ h34_ h35_
             have HO292:=n0_
             have HO295:=n1_
             have HO298:=n2_
             have HO301:=n3_
             have HO304:=n4_
             have HO307:=n5_
             have HO_242000:=n6_
             have HO_242001:=n7_
             have HO_249000:=n8_
             have HO_249001:=n9_
             have HO_256000:=n10_
             have HO_256001:=n11_
             have HO_264000:=n12_
             have HO_264001:=n13_
             have BK218:=n14_
             have BK219:=n15_
             have BK241:=n16_
             have BK248:=n17_
             have BK255:=n18_
             have BK263:=n19_
             have BK309:=n20_
             have GW309:=n21_
             have GE309:=n22_
             have NB218_309:=n23_
             have NB309_218:=n24_
             have NB219_309:=n25_
             have NB309_219:=n26_
             have NB241_309:=n27_
             have NB309_241:=n28_
             have NB248_309:=n29_
             have NB309_248:=n30_
             have NB255_309:=n31_
             have NB309_255:=n32_
             have NB263_309:=n33_
             have NB309_263:=n34_
             have HB:=n35_
             clear n0_ n1_ n2_ n3_ n4_ n5_ n6_ n7_ n8_ n9_ n10_ n11_ n12_ n13_ n14_ n15_ n16_ n17_ n18_ n19_ n20_ n21_ n22_ n23_ n24_ n25_ n26_ n27_ n28_ n29_ n30_ n31_ n32_ n33_ n34_ n35_
             have hHeld:w194.cell? ⟨gb218,0,none⟩ = some (.slice A0_0 l0_0.length c0_0)∧w194.cell? ⟨gb218,1,none⟩ = some (.slice A0_1 l0_1.length c0_1)∧w194.cell? ⟨gb219,0,none⟩ = some (.slice A1_0 l1_0.length c1_0)∧w194.cell? ⟨gb219,1,none⟩ = some (.slice A1_1 l1_1.length c1_1):=hS_
             obtain ⟨Ao195,co195,eo195⟩:=Kd.R_slice HO304.out
             (first|subst eo195|(injection eo195 with f1_ f2_ f3_;obtain rfl:=f1_.symm;obtain rfl:=f3_.symm))
             obtain ⟨Ao197,co197,eo197⟩:=Kd.R_slice HO307.out
             (first|subst eo197|(injection eo197 with f1_ f2_ f3_;obtain rfl:=f1_.symm;obtain rfl:=f3_.symm))
             refine norm_ (a':=?_) ?_ ?_
             rotate_left
             ·simp only [putAll,Act.put,List.setIfInBounds_toArray,List.set_cons_zero,List.set_cons_succ]
              rfl
             refine one_ (i:=9) (N:=none) (zA 11 1023) rfl rfl (one_of HT_.out (by kernel_rfl)) (by decide) (fun K hK=>?_)
             have hs196:w194.cell? ⟨gb309,0,none⟩ = some (.slice none 0 0):=zcl BK309.out 0
             have hfs196:=blk_frozen BK309.out 0
             have hns196_0:=NB218_309.out
             have hns196_1:=NB219_309.out
             have hns196_2:=NB241_309.out
             have hns196_3:=NB248_309.out
             have hns196_4:=NB255_309.out
             have hns196_5:=NB263_309.out
             have hms196_0:=NB309_218.out
             have hms196_1:=NB309_219.out
             have hms196_2:=NB309_241.out
             have hms196_3:=NB309_248.out
             have hms196_4:=NB309_255.out
             have hms196_5:=NB309_263.out
             have hs198:w194.cell? ⟨gb309,1,none⟩ = some (.slice none 0 0):=zcl BK309.out 1
             have hfs198:=blk_frozen BK309.out 1
             have hns198_0:=NB218_309.out
             have hns198_1:=NB219_309.out
             have hns198_2:=NB241_309.out
             have hns198_3:=NB248_309.out
             have hns198_4:=NB255_309.out
             have hns198_5:=NB263_309.out
             have hms198_0:=NB309_218.out
             have hms198_1:=NB309_219.out
             have hms198_2:=NB309_241.out
             have hms198_3:=NB309_248.out
             have hms198_4:=NB309_255.out
             have hms198_5:=NB309_263.out
             refine skip_ (w1:=?_) (by rfl) rfl ?_ ?_
             rotate_left
             ·go_simp
              rfl
             refine hK.out _ _ ⟨((cell_far (p:=⟨gb309,_,none⟩) NB218_309.out _).trans (((cell_far (p:=⟨gb309,_,none⟩) NB218_309.out _).trans (hHeld.1)))),((cell_far (p:=⟨gb309,_,none⟩) NB218_309.out _).trans (((cell_far (p:=⟨gb309,_,none⟩) NB218_309.out _).trans (hHeld.2.1)))),((cell_far (p:=⟨gb309,_,none⟩) NB219_309.out _).trans (((cell_far (p:=⟨gb309,_,none⟩) NB219_309.out _).trans (hHeld.2.2.1)))),((cell_far (p:=⟨gb309,_,none⟩) NB219_309.out _).trans (((cell_far (p:=⟨gb309,_,none⟩) NB219_309.out _).trans (hHeld.2.2.2))))⟩ (fun hHeld=>?_)
             clear hK K
             refine zP 10 (some 16) (zA 11 2047) (any_of HT_.out (by kernel_rfl)) ?_
             refine done_ (done_of HT_.out (by kernel_rfl)) ?_
             go_upto_region 32 with (fail)
             go_cut [110] (fun v110 wc=>∃ (kq:Nat) (x110_174:Bool),v110 = .bool x110_174∧Aside0 (laws_FnExactCompose.j2 kq t286 x110_174 t287 t288 = some true)∧Aside0 (kq≤kj115)∧Aside0 (Kd.R (Kd.int .i64) 3 wc w.heap.size (fun k_=>zx (sv Ao45 t237 co45) k_∧zx (sv Ao51 t280 co51) k_∧zx (sv Ao56 t281 co56) k_∧zx (sv Ao61 t283 co61) k_∧zx (sv Ao67 t284 co67) k_∧zx (sv Ao73 t256 co73) k_∧zx (sv Ao80 t259 co80) k_∧zx (sv Ao195 t302 co195) k_∧zx (sv Ao197 t305 co197) k_) (.slice Ao43 t234.length co43) t234)∧Aside0 (Kd.R (Kd.int .i64) 3 wc w.heap.size (fun k_=>zx (sv Ao43 t234 co43) k_∧zx (sv Ao51 t280 co51) k_∧zx (sv Ao56 t281 co56) k_∧zx (sv Ao61 t283 co61) k_∧zx (sv Ao67 t284 co67) k_∧zx (sv Ao73 t256 co73) k_∧zx (sv Ao80 t259 co80) k_∧zx (sv Ao195 t302 co195) k_∧zx (sv Ao197 t305 co197) k_) (.slice Ao45 t237.length co45) t237)∧Aside0 (Kd.R (Kd.int .i64) 3 wc w.heap.size (fun k_=>zx (sv Ao43 t234 co43) k_∧zx (sv Ao45 t237 co45) k_∧zx (sv Ao56 t281 co56) k_∧zx (sv Ao61 t283 co61) k_∧zx (sv Ao67 t284 co67) k_∧zx (sv Ao73 t256 co73) k_∧zx (sv Ao80 t259 co80) k_∧zx (sv Ao195 t302 co195) k_∧zx (sv Ao197 t305 co197) k_) (.slice Ao51 t280.length co51) t280)∧Aside0 (Kd.R (Kd.int .i64) 3 wc w.heap.size (fun k_=>zx (sv Ao43 t234 co43) k_∧zx (sv Ao45 t237 co45) k_∧zx (sv Ao51 t280 co51) k_∧zx (sv Ao61 t283 co61) k_∧zx (sv Ao67 t284 co67) k_∧zx (sv Ao73 t256 co73) k_∧zx (sv Ao80 t259 co80) k_∧zx (sv Ao195 t302 co195) k_∧zx (sv Ao197 t305 co197) k_) (.slice Ao56 t281.length co56) t281)∧Aside0 (Kd.R (Kd.int .i64) 3 wc w.heap.size (fun k_=>zx (sv Ao43 t234 co43) k_∧zx (sv Ao45 t237 co45) k_∧zx (sv Ao51 t280 co51) k_∧zx (sv Ao56 t281 co56) k_∧zx (sv Ao67 t284 co67) k_∧zx (sv Ao73 t256 co73) k_∧zx (sv Ao80 t259 co80) k_∧zx (sv Ao195 t302 co195) k_∧zx (sv Ao197 t305 co197) k_) (.slice Ao61 t283.length co61) t283)∧Aside0 (Kd.R (Kd.int .i64) 3 wc w.heap.size (fun k_=>zx (sv Ao43 t234 co43) k_∧zx (sv Ao45 t237 co45) k_∧zx (sv Ao51 t280 co51) k_∧zx (sv Ao56 t281 co56) k_∧zx (sv Ao61 t283 co61) k_∧zx (sv Ao73 t256 co73) k_∧zx (sv Ao80 t259 co80) k_∧zx (sv Ao195 t302 co195) k_∧zx (sv Ao197 t305 co197) k_) (.slice Ao67 t284.length co67) t284)∧Aside0 (Kd.R (Kd.int .i64) 3 wc w.heap.size (fun k_=>zx (sv Ao43 t234 co43) k_∧zx (sv Ao45 t237 co45) k_∧zx (sv Ao51 t280 co51) k_∧zx (sv Ao56 t281 co56) k_∧zx (sv Ao61 t283 co61) k_∧zx (sv Ao67 t284 co67) k_∧zx (sv Ao80 t259 co80) k_∧zx (sv Ao195 t302 co195) k_∧zx (sv Ao197 t305 co197) k_) (.slice Ao73 t256.length co73) t287)∧Aside0 (Kd.R (Kd.int .i64) 3 wc w.heap.size (fun k_=>zx (sv Ao43 t234 co43) k_∧zx (sv Ao45 t237 co45) k_∧zx (sv Ao51 t280 co51) k_∧zx (sv Ao56 t281 co56) k_∧zx (sv Ao61 t283 co61) k_∧zx (sv Ao67 t284 co67) k_∧zx (sv Ao73 t256 co73) k_∧zx (sv Ao195 t302 co195) k_∧zx (sv Ao197 t305 co197) k_) (.slice Ao80 t259.length co80) t288)∧Aside0 (Kd.R (Kd.int .i64) 3 wc w.heap.size (fun k_=>zx (sv Ao43 t234 co43) k_∧zx (sv Ao45 t237 co45) k_∧zx (sv Ao51 t280 co51) k_∧zx (sv Ao56 t281 co56) k_∧zx (sv Ao61 t283 co61) k_∧zx (sv Ao67 t284 co67) k_∧zx (sv Ao73 t256 co73) k_∧zx (sv Ao80 t259 co80) k_∧zx (sv Ao197 t305 co197) k_) (.slice Ao195 t302.length co195) t302)∧Aside0 (Kd.R (Kd.int .i64) 3 wc w.heap.size (fun k_=>zx (sv Ao43 t234 co43) k_∧zx (sv Ao45 t237 co45) k_∧zx (sv Ao51 t280 co51) k_∧zx (sv Ao56 t281 co56) k_∧zx (sv Ao61 t283 co61) k_∧zx (sv Ao67 t284 co67) k_∧zx (sv Ao73 t256 co73) k_∧zx (sv Ao80 t259 co80) k_∧zx (sv Ao195 t302 co195) k_) (.slice Ao197 t305.length co197) t305)∧Aside0 (wc.heap[gb218]? = some (.cells #[(.slice A0_0 l0_0.length c0_0),(.slice A0_1 l0_1.length c0_1)] 47 (0,0)))∧Aside0 (wc.heap[gb219]? = some (.cells #[(.slice A1_0 l1_0.length c1_0),(.slice A1_1 l1_1.length c1_1)] 47 (0,0)))∧Aside0 (wc.heap[gb241]? = some (.cells #[(.slice Ao43 t234.length co43),(.slice Ao45 t237.length co45)] 49 (0,0)))∧Aside0 (wc.heap[gb248]? = some (.cells #[(.slice Ao51 t280.length co51),(.slice Ao56 t281.length co56)] 49 (0,0)))∧Aside0 (wc.heap[gb255]? = some (.cells #[(.slice Ao61 t283.length co61),(.slice Ao67 t284.length co67)] 49 (0,0)))∧Aside0 (wc.heap[gb263]? = some (.cells #[(.slice Ao73 t256.length co73),(.slice Ao80 t259.length co80)] 49 (0,0)))∧Aside0 (wc.heap[gb309]? = some (.cells #[(.slice Ao195 t302.length co195),(.slice Ao197 t305.length co197)] 49 (0,0)))∧Aside0 (Below w.heap.size w wc))
             case first =>
              have H:=HC175.out
              clear HC175
              replace H:=Option.bind_eq_some_iff.mp H
              obtain ⟨t310,A1990,H⟩:=H
              replace H:(if t310 = true then (laws_FnExactCompose.j2 kj115 t286 (t308 != t240) t287 t288) else (laws_FnExactCompose.j2 kj115 t286 true t287 t288)) = some true:=H
              have A199:=Aside0.mk A1990
              clear A1990
              by_cases c200:t310 = true
              ·subst c200
               have H1:(laws_FnExactCompose.j2 kj115 t286 (t308 != t240) t287 t288) = some true:=by first|with_reducible rfl|(rw [if_pos rfl] at H;exact H)
               clear H
               have H:=H1
               clear H1
               have H':=Aside0.mk H
               clear H
               have hnb201:=NB309_218.out
               have hnc201:=NB218_309.out
               have hnb202:=NB309_219.out
               have hnc202:=NB219_309.out
               have hnb203:=NB309_241.out
               have hnc203:=NB241_309.out
               have hnb204:=NB309_248.out
               have hnc204:=NB248_309.out
               have hnb205:=NB309_255.out
               have hnc205:=NB255_309.out
               have hnb206:=NB309_263.out
               have hnc206:=NB263_309.out
               have hcz207_0:w194.cell? ⟨gb309,0,none⟩ = some (.slice none 0 0):=zcl BK309.out 0
               have hcz207_1:w194.cell? ⟨gb309,1,none⟩ = some (.slice none 0 0):=zcl BK309.out 1
               have hfz207_0:=blk_frozen BK309.out 0
               have hfz207_1:=blk_frozen BK309.out 1
               have hnb208:=NB241_218.out
               have hnc208:=NB218_241.out
               have hnb209:=NB241_219.out
               have hnc209:=NB219_241.out
               have hnb210:=NB241_248.out
               have hnc210:=NB248_241.out
               have hnb211:=NB241_255.out
               have hnc211:=NB255_241.out
               have hnb212:=NB241_263.out
               have hnc212:=NB263_241.out
               have hcz213_0:w194.cell? ⟨gb241,0,none⟩ = some (.slice Ao43 t234.length co43):=zcl BK241.out 0
               have hcz213_1:w194.cell? ⟨gb241,1,none⟩ = some (.slice Ao45 t237.length co45):=zcl BK241.out 1
               have hfz213_0:=blk_frozen BK241.out 0
               have hfz213_1:=blk_frozen BK241.out 1
               go_wp2_with (first|((with_reducible refine gate_callee (f:=27) rfl ?_);have zq0:=zf2 HO304.out BK309.out 0 (.slice Ao195 t302.length co195) 1 (.slice Ao197 t305.length co197);have zq1:=zf2 HO307.out BK309.out 0 (.slice Ao195 t302.length co195) 1 (.slice Ao197 t305.length co197);have zq2:=zf2 HO_242000.out BK309.out 0 (.slice Ao195 t302.length co195) 1 (.slice Ao197 t305.length co197);have zq3:=zf2 HO_242001.out BK309.out 0 (.slice Ao195 t302.length co195) 1 (.slice Ao197 t305.length co197);refine zg (some 104) Try.func27 #[.agg #[.slice Ao195 t302.length co195,.slice Ao197 t305.length co197],.agg #[.slice Ao43 t234.length co43,.slice Ao45 t237.length co45]] ?_;(with_reducible refine (laws_eqSubstitution.calls kj115 _ _ t302 _ _ t305 _ _ t234 _ _ t237 true _ ?side1 ?side2 ?side3 ?side4 ?side5 ?side6 ?side7 ?side8 A199.out).mono ?_);(case side1=>refine (Kd.R_reads' (e:=3) (base:=w.heap.size) (ok:=fun k_=>(zx v291 k_∧(zx v294 k_∧(zx v297 k_∧(zx v300 k_∧(zx (sv Ao197 t305 co197) k_∧(zx (sv Ao43 t234 co43) k_∧(zx (sv Ao45 t237 co45) k_∧(zx (sv Ao51 t280 co51) k_∧(zx (sv Ao56 t281 co56) k_∧(zx (sv Ao61 t283 co61) k_∧(zx (sv Ao67 t284 co67) k_∧(zx (sv Ao73 t256 co73) k_∧zx (sv Ao80 t259 co80) k_))))))))))))) (n:=t302.length) (c:=co195) ?_).2.2;exact (zr zq0));(case side2=>exact (Kd.R_reads' HO304.out).2.1);(case side3=>refine (Kd.R_reads' (e:=3) (base:=w.heap.size) (ok:=fun k_=>(zx v291 k_∧(zx v294 k_∧(zx v297 k_∧(zx v300 k_∧(zx (sv Ao195 t302 co195) k_∧(zx (sv Ao43 t234 co43) k_∧(zx (sv Ao45 t237 co45) k_∧(zx (sv Ao51 t280 co51) k_∧(zx (sv Ao56 t281 co56) k_∧(zx (sv Ao61 t283 co61) k_∧(zx (sv Ao67 t284 co67) k_∧(zx (sv Ao73 t256 co73) k_∧zx (sv Ao80 t259 co80) k_))))))))))))) (n:=t305.length) (c:=co197) ?_).2.2;exact (zr zq1));(case side4=>exact (Kd.R_reads' HO307.out).2.1);(case side5=>refine (Kd.R_reads' (e:=3) (base:=w.heap.size) (ok:=fun k_=>(zx v291 k_∧(zx v294 k_∧(zx v297 k_∧(zx v300 k_∧(zx (sv Ao195 t302 co195) k_∧(zx (sv Ao197 t305 co197) k_∧(zx (sv Ao45 t237 co45) k_∧(zx (sv Ao51 t280 co51) k_∧(zx (sv Ao56 t281 co56) k_∧(zx (sv Ao61 t283 co61) k_∧(zx (sv Ao67 t284 co67) k_∧(zx (sv Ao73 t256 co73) k_∧zx (sv Ao80 t259 co80) k_))))))))))))) (n:=t234.length) (c:=co43) ?_).2.2;exact (zr zq2));(case side6=>exact (Kd.R_reads' HO_242000.out).2.1);(case side7=>refine (Kd.R_reads' (e:=3) (base:=w.heap.size) (ok:=fun k_=>(zx v291 k_∧(zx v294 k_∧(zx v297 k_∧(zx v300 k_∧(zx (sv Ao195 t302 co195) k_∧(zx (sv Ao197 t305 co197) k_∧(zx (sv Ao43 t234 co43) k_∧(zx (sv Ao51 t280 co51) k_∧(zx (sv Ao56 t281 co56) k_∧(zx (sv Ao61 t283 co61) k_∧(zx (sv Ao67 t284 co67) k_∧(zx (sv Ao73 t256 co73) k_∧zx (sv Ao80 t259 co80) k_))))))))))))) (n:=t237.length) (c:=co45) ?_).2.2;exact (zr zq3));(case side8=>exact (Kd.R_reads' HO_242001.out).2.1);rintro e w214 ⟨rfl,hb⟩;refine ⟨_,rfl,?_⟩;replace HO_242000:=zm (Kd.R_below (zr zq2) hb);replace HO_242001:=zm (Kd.R_below (zr zq3) hb);replace HO_249000:=zm (Kd.R_below (zr (zf2 HO_249000.out BK309.out 0 (.slice Ao195 t302.length co195) 1 (.slice Ao197 t305.length co197))) hb);replace HO_249001:=zm (Kd.R_below (zr (zf2 HO_249001.out BK309.out 0 (.slice Ao195 t302.length co195) 1 (.slice Ao197 t305.length co197))) hb);replace HO_256000:=zm (Kd.R_below (zr (zf2 HO_256000.out BK309.out 0 (.slice Ao195 t302.length co195) 1 (.slice Ao197 t305.length co197))) hb);replace HO_256001:=zm (Kd.R_below (zr (zf2 HO_256001.out BK309.out 0 (.slice Ao195 t302.length co195) 1 (.slice Ao197 t305.length co197))) hb);replace HO_264000:=zm (Kd.R_below (zr (zf2 HO_264000.out BK309.out 0 (.slice Ao195 t302.length co195) 1 (.slice Ao197 t305.length co197))) hb);replace HO_264001:=zm (Kd.R_below (zr (zf2 HO_264001.out BK309.out 0 (.slice Ao195 t302.length co195) 1 (.slice Ao197 t305.length co197))) hb);replace HO292:=zm (Kd.R_below (zr (zf2 HO292.out BK309.out 0 (.slice Ao195 t302.length co195) 1 (.slice Ao197 t305.length co197))) hb);replace HO295:=zm (Kd.R_below (zr (zf2 HO295.out BK309.out 0 (.slice Ao195 t302.length co195) 1 (.slice Ao197 t305.length co197))) hb);replace HO298:=zm (Kd.R_below (zr (zf2 HO298.out BK309.out 0 (.slice Ao195 t302.length co195) 1 (.slice Ao197 t305.length co197))) hb);replace HO301:=zm (Kd.R_below (zr (zf2 HO301.out BK309.out 0 (.slice Ao195 t302.length co195) 1 (.slice Ao197 t305.length co197))) hb);replace HO304:=zm (Kd.R_below (zr zq0) hb);replace HO307:=zm (Kd.R_below (zr zq1) hb);replace BK218:=zm (blk_below (g:=gb218) (o:=.cells #[.slice A0_0 l0_0.length c0_0,.slice A0_1 l0_1.length c0_1] 47 (0,0)) zbz hb);replace BK219:=zm (blk_below (g:=gb219) (o:=.cells #[.slice A1_0 l1_0.length c1_0,.slice A1_1 l1_1.length c1_1] 47 (0,0)) zbz hb);replace BK241:=zm (blk_below (g:=gb241) (o:=.cells #[.slice Ao43 t234.length co43,.slice Ao45 t237.length co45] 49 (0,0)) zbz hb);replace BK248:=zm (blk_below (g:=gb248) (o:=.cells #[.slice Ao51 t280.length co51,.slice Ao56 t281.length co56] 49 (0,0)) zbz hb);replace BK255:=zm (blk_below (g:=gb255) (o:=.cells #[.slice Ao61 t283.length co61,.slice Ao67 t284.length co67] 49 (0,0)) zbz hb);replace BK263:=zm (blk_below (g:=gb263) (o:=.cells #[.slice Ao73 t256.length co73,.slice Ao80 t259.length co80] 49 (0,0)) zbz hb);replace BK309:=zm (blk_below (g:=gb309) (o:=.cells #[.slice Ao195 t302.length co195,.slice Ao197 t305.length co197] 49 (0,0)) (by (with_reducible repeat (first|refine blk_drewN ?_ _|refine blk_drew ?_|refine blk_alloc ?_ _));refine blk_put (cs:=#[.slice Ao195 t302.length co195,.slice none 0 0]) ?_ 1 _ rfl;(with_reducible repeat (first|refine blk_drewN ?_ _|refine blk_drew ?_|refine blk_alloc ?_ _));refine blk_put (cs:=#[.slice none 0 0,.slice none 0 0]) ?_ 0 _ rfl;(with_reducible repeat (first|refine blk_drewN ?_ _|refine blk_drew ?_|refine blk_alloc ?_ _));exact BK309.out) hb);replace HB:=zm (below_step zl hb);(try clear hb)))
               go_meet
               case rel=>exact ⟨_,((t308 != t240)),(by first|rfl|(simp;done)|(simp [*];done)),H',⟨by have:=HJ24.out;have:=HJ115.out;first|omega|exact Nat.le_refl _⟩,⟨by (try simp only [hl249000_115]);(try simp only [hl249001_115]);(try simp only [hl256000_115]);(try simp only [hl256001_115]);(with_reducible repeat (first|apply Kd.R_alloc|apply Kd.R_drewN|apply Kd.R_drew));exact Kd.R_mono HO_242000.out (fun _ hk=>⟨hk.2.2.2.2.2.2.1,hk.2.2.2.2.2.2.2.1,hk.2.2.2.2.2.2.2.2.1,hk.2.2.2.2.2.2.2.2.2.1,hk.2.2.2.2.2.2.2.2.2.2.1,hk.2.2.2.2.2.2.2.2.2.2.2.1,hk.2.2.2.2.2.2.2.2.2.2.2.2,hk.2.2.2.2.1,hk.2.2.2.2.2.1⟩)⟩,⟨by (try simp only [hl249000_115]);(try simp only [hl249001_115]);(try simp only [hl256000_115]);(try simp only [hl256001_115]);(with_reducible repeat (first|apply Kd.R_alloc|apply Kd.R_drewN|apply Kd.R_drew));exact Kd.R_mono HO_242001.out (fun _ hk=>⟨hk.2.2.2.2.2.2.1,hk.2.2.2.2.2.2.2.1,hk.2.2.2.2.2.2.2.2.1,hk.2.2.2.2.2.2.2.2.2.1,hk.2.2.2.2.2.2.2.2.2.2.1,hk.2.2.2.2.2.2.2.2.2.2.2.1,hk.2.2.2.2.2.2.2.2.2.2.2.2,hk.2.2.2.2.1,hk.2.2.2.2.2.1⟩)⟩,⟨by (try simp only [hl249000_115]);(try simp only [hl249001_115]);(try simp only [hl256000_115]);(try simp only [hl256001_115]);(with_reducible repeat (first|apply Kd.R_alloc|apply Kd.R_drewN|apply Kd.R_drew));exact Kd.R_mono HO_249000.out (fun _ hk=>⟨hk.2.2.2.2.2.2.1,hk.2.2.2.2.2.2.2.1,hk.2.2.2.2.2.2.2.2.1,hk.2.2.2.2.2.2.2.2.2.1,hk.2.2.2.2.2.2.2.2.2.2.1,hk.2.2.2.2.2.2.2.2.2.2.2.1,hk.2.2.2.2.2.2.2.2.2.2.2.2,hk.2.2.2.2.1,hk.2.2.2.2.2.1⟩)⟩,⟨by (try simp only [hl249000_115]);(try simp only [hl249001_115]);(try simp only [hl256000_115]);(try simp only [hl256001_115]);(with_reducible repeat (first|apply Kd.R_alloc|apply Kd.R_drewN|apply Kd.R_drew));exact Kd.R_mono HO_249001.out (fun _ hk=>⟨hk.2.2.2.2.2.2.1,hk.2.2.2.2.2.2.2.1,hk.2.2.2.2.2.2.2.2.1,hk.2.2.2.2.2.2.2.2.2.1,hk.2.2.2.2.2.2.2.2.2.2.1,hk.2.2.2.2.2.2.2.2.2.2.2.1,hk.2.2.2.2.2.2.2.2.2.2.2.2,hk.2.2.2.2.1,hk.2.2.2.2.2.1⟩)⟩,⟨by (try simp only [hl249000_115]);(try simp only [hl249001_115]);(try simp only [hl256000_115]);(try simp only [hl256001_115]);(with_reducible repeat (first|apply Kd.R_alloc|apply Kd.R_drewN|apply Kd.R_drew));exact Kd.R_mono HO_256000.out (fun _ hk=>⟨hk.2.2.2.2.2.2.1,hk.2.2.2.2.2.2.2.1,hk.2.2.2.2.2.2.2.2.1,hk.2.2.2.2.2.2.2.2.2.1,hk.2.2.2.2.2.2.2.2.2.2.1,hk.2.2.2.2.2.2.2.2.2.2.2.1,hk.2.2.2.2.2.2.2.2.2.2.2.2,hk.2.2.2.2.1,hk.2.2.2.2.2.1⟩)⟩,⟨by (try simp only [hl249000_115]);(try simp only [hl249001_115]);(try simp only [hl256000_115]);(try simp only [hl256001_115]);(with_reducible repeat (first|apply Kd.R_alloc|apply Kd.R_drewN|apply Kd.R_drew));exact Kd.R_mono HO_256001.out (fun _ hk=>⟨hk.2.2.2.2.2.2.1,hk.2.2.2.2.2.2.2.1,hk.2.2.2.2.2.2.2.2.1,hk.2.2.2.2.2.2.2.2.2.1,hk.2.2.2.2.2.2.2.2.2.2.1,hk.2.2.2.2.2.2.2.2.2.2.2.1,hk.2.2.2.2.2.2.2.2.2.2.2.2,hk.2.2.2.2.1,hk.2.2.2.2.2.1⟩)⟩,⟨by (try simp only [hl249000_115]);(try simp only [hl249001_115]);(try simp only [hl256000_115]);(try simp only [hl256001_115]);(with_reducible repeat (first|apply Kd.R_alloc|apply Kd.R_drewN|apply Kd.R_drew));exact Kd.R_mono HO_264000.out (fun _ hk=>⟨hk.2.2.2.2.2.2.1,hk.2.2.2.2.2.2.2.1,hk.2.2.2.2.2.2.2.2.1,hk.2.2.2.2.2.2.2.2.2.1,hk.2.2.2.2.2.2.2.2.2.2.1,hk.2.2.2.2.2.2.2.2.2.2.2.1,hk.2.2.2.2.2.2.2.2.2.2.2.2,hk.2.2.2.2.1,hk.2.2.2.2.2.1⟩)⟩,⟨by (try simp only [hl249000_115]);(try simp only [hl249001_115]);(try simp only [hl256000_115]);(try simp only [hl256001_115]);(with_reducible repeat (first|apply Kd.R_alloc|apply Kd.R_drewN|apply Kd.R_drew));exact Kd.R_mono HO_264001.out (fun _ hk=>⟨hk.2.2.2.2.2.2.1,hk.2.2.2.2.2.2.2.1,hk.2.2.2.2.2.2.2.2.1,hk.2.2.2.2.2.2.2.2.2.1,hk.2.2.2.2.2.2.2.2.2.2.1,hk.2.2.2.2.2.2.2.2.2.2.2.1,hk.2.2.2.2.2.2.2.2.2.2.2.2,hk.2.2.2.2.1,hk.2.2.2.2.2.1⟩)⟩,⟨by (try simp only [hl249000_115]);(try simp only [hl249001_115]);(try simp only [hl256000_115]);(try simp only [hl256001_115]);(with_reducible repeat (first|apply Kd.R_alloc|apply Kd.R_drewN|apply Kd.R_drew));exact Kd.R_mono HO304.out (fun _ hk=>⟨hk.2.2.2.2.2.1,hk.2.2.2.2.2.2.1,hk.2.2.2.2.2.2.2.1,hk.2.2.2.2.2.2.2.2.1,hk.2.2.2.2.2.2.2.2.2.1,hk.2.2.2.2.2.2.2.2.2.2.1,hk.2.2.2.2.2.2.2.2.2.2.2.1,hk.2.2.2.2.2.2.2.2.2.2.2.2,hk.2.2.2.2.1⟩)⟩,⟨by (try simp only [hl249000_115]);(try simp only [hl249001_115]);(try simp only [hl256000_115]);(try simp only [hl256001_115]);(with_reducible repeat (first|apply Kd.R_alloc|apply Kd.R_drewN|apply Kd.R_drew));exact Kd.R_mono HO307.out (fun _ hk=>⟨hk.2.2.2.2.2.1,hk.2.2.2.2.2.2.1,hk.2.2.2.2.2.2.2.1,hk.2.2.2.2.2.2.2.2.1,hk.2.2.2.2.2.2.2.2.2.1,hk.2.2.2.2.2.2.2.2.2.2.1,hk.2.2.2.2.2.2.2.2.2.2.2.1,hk.2.2.2.2.2.2.2.2.2.2.2.2,hk.2.2.2.2.1⟩)⟩,⟨by (try simp only [hl249000_115]);(try simp only [hl249001_115]);(try simp only [hl256000_115]);(try simp only [hl256001_115]);(with_reducible repeat (first|refine blk_drewN ?_ _|refine blk_drew ?_|refine blk_alloc ?_ _));exact BK218.out⟩,⟨by (try simp only [hl249000_115]);(try simp only [hl249001_115]);(try simp only [hl256000_115]);(try simp only [hl256001_115]);(with_reducible repeat (first|refine blk_drewN ?_ _|refine blk_drew ?_|refine blk_alloc ?_ _));exact BK219.out⟩,⟨by (try simp only [hl249000_115]);(try simp only [hl249001_115]);(try simp only [hl256000_115]);(try simp only [hl256001_115]);(with_reducible repeat (first|refine blk_drewN ?_ _|refine blk_drew ?_|refine blk_alloc ?_ _));exact BK241.out⟩,⟨by (try simp only [hl249000_115]);(try simp only [hl249001_115]);(try simp only [hl256000_115]);(try simp only [hl256001_115]);(with_reducible repeat (first|refine blk_drewN ?_ _|refine blk_drew ?_|refine blk_alloc ?_ _));exact BK248.out⟩,⟨by (try simp only [hl249000_115]);(try simp only [hl249001_115]);(try simp only [hl256000_115]);(try simp only [hl256001_115]);(with_reducible repeat (first|refine blk_drewN ?_ _|refine blk_drew ?_|refine blk_alloc ?_ _));exact BK255.out⟩,⟨by (try simp only [hl249000_115]);(try simp only [hl249001_115]);(try simp only [hl256000_115]);(try simp only [hl256001_115]);(with_reducible repeat (first|refine blk_drewN ?_ _|refine blk_drew ?_|refine blk_alloc ?_ _));exact BK263.out⟩,⟨by (try simp only [hl249000_115]);(try simp only [hl249001_115]);(try simp only [hl256000_115]);(try simp only [hl256001_115]);(with_reducible repeat (first|refine blk_drewN ?_ _|refine blk_drew ?_|refine blk_alloc ?_ _));exact BK309.out⟩,⟨zl⟩⟩
              ·replace c200:=Bool.eq_false_iff.mpr c200
               subst c200
               have H1:(laws_FnExactCompose.j2 kj115 t286 true t287 t288) = some true:=by first|with_reducible rfl|(rw [if_neg (show ¬ (false = true) by decide)] at H;exact H)
               clear H
               have H:=H1
               clear H1
               have H':=Aside0.mk H
               clear H
               have hnb215:=NB309_218.out
               have hnc215:=NB218_309.out
               have hnb216:=NB309_219.out
               have hnc216:=NB219_309.out
               have hnb217:=NB309_241.out
               have hnc217:=NB241_309.out
               have hnb218:=NB309_248.out
               have hnc218:=NB248_309.out
               have hnb219:=NB309_255.out
               have hnc219:=NB255_309.out
               have hnb220:=NB309_263.out
               have hnc220:=NB263_309.out
               have hcz221_0:w194.cell? ⟨gb309,0,none⟩ = some (.slice none 0 0):=zcl BK309.out 0
               have hcz221_1:w194.cell? ⟨gb309,1,none⟩ = some (.slice none 0 0):=zcl BK309.out 1
               have hfz221_0:=blk_frozen BK309.out 0
               have hfz221_1:=blk_frozen BK309.out 1
               have hnb222:=NB241_218.out
               have hnc222:=NB218_241.out
               have hnb223:=NB241_219.out
               have hnc223:=NB219_241.out
               have hnb224:=NB241_248.out
               have hnc224:=NB248_241.out
               have hnb225:=NB241_255.out
               have hnc225:=NB255_241.out
               have hnb226:=NB241_263.out
               have hnc226:=NB263_241.out
               have hcz227_0:w194.cell? ⟨gb241,0,none⟩ = some (.slice Ao43 t234.length co43):=zcl BK241.out 0
               have hcz227_1:w194.cell? ⟨gb241,1,none⟩ = some (.slice Ao45 t237.length co45):=zcl BK241.out 1
               have hfz227_0:=blk_frozen BK241.out 0
               have hfz227_1:=blk_frozen BK241.out 1
               go_wp2_with (first|((with_reducible refine gate_callee (f:=27) rfl ?_);have zq0:=zf2 HO304.out BK309.out 0 (.slice Ao195 t302.length co195) 1 (.slice Ao197 t305.length co197);have zq1:=zf2 HO307.out BK309.out 0 (.slice Ao195 t302.length co195) 1 (.slice Ao197 t305.length co197);have zq2:=zf2 HO_242000.out BK309.out 0 (.slice Ao195 t302.length co195) 1 (.slice Ao197 t305.length co197);have zq3:=zf2 HO_242001.out BK309.out 0 (.slice Ao195 t302.length co195) 1 (.slice Ao197 t305.length co197);refine zg (some 104) Try.func27 #[.agg #[.slice Ao195 t302.length co195,.slice Ao197 t305.length co197],.agg #[.slice Ao43 t234.length co43,.slice Ao45 t237.length co45]] ?_;(with_reducible refine (laws_eqSubstitution.calls kj115 _ _ t302 _ _ t305 _ _ t234 _ _ t237 false _ ?side1 ?side2 ?side3 ?side4 ?side5 ?side6 ?side7 ?side8 A199.out).mono ?_);(case side1=>refine (Kd.R_reads' (e:=3) (base:=w.heap.size) (ok:=fun k_=>(zx v291 k_∧(zx v294 k_∧(zx v297 k_∧(zx v300 k_∧(zx (sv Ao197 t305 co197) k_∧(zx (sv Ao43 t234 co43) k_∧(zx (sv Ao45 t237 co45) k_∧(zx (sv Ao51 t280 co51) k_∧(zx (sv Ao56 t281 co56) k_∧(zx (sv Ao61 t283 co61) k_∧(zx (sv Ao67 t284 co67) k_∧(zx (sv Ao73 t256 co73) k_∧zx (sv Ao80 t259 co80) k_))))))))))))) (n:=t302.length) (c:=co195) ?_).2.2;exact (zr zq0));(case side2=>exact (Kd.R_reads' HO304.out).2.1);(case side3=>refine (Kd.R_reads' (e:=3) (base:=w.heap.size) (ok:=fun k_=>(zx v291 k_∧(zx v294 k_∧(zx v297 k_∧(zx v300 k_∧(zx (sv Ao195 t302 co195) k_∧(zx (sv Ao43 t234 co43) k_∧(zx (sv Ao45 t237 co45) k_∧(zx (sv Ao51 t280 co51) k_∧(zx (sv Ao56 t281 co56) k_∧(zx (sv Ao61 t283 co61) k_∧(zx (sv Ao67 t284 co67) k_∧(zx (sv Ao73 t256 co73) k_∧zx (sv Ao80 t259 co80) k_))))))))))))) (n:=t305.length) (c:=co197) ?_).2.2;exact (zr zq1));(case side4=>exact (Kd.R_reads' HO307.out).2.1);(case side5=>refine (Kd.R_reads' (e:=3) (base:=w.heap.size) (ok:=fun k_=>(zx v291 k_∧(zx v294 k_∧(zx v297 k_∧(zx v300 k_∧(zx (sv Ao195 t302 co195) k_∧(zx (sv Ao197 t305 co197) k_∧(zx (sv Ao45 t237 co45) k_∧(zx (sv Ao51 t280 co51) k_∧(zx (sv Ao56 t281 co56) k_∧(zx (sv Ao61 t283 co61) k_∧(zx (sv Ao67 t284 co67) k_∧(zx (sv Ao73 t256 co73) k_∧zx (sv Ao80 t259 co80) k_))))))))))))) (n:=t234.length) (c:=co43) ?_).2.2;exact (zr zq2));(case side6=>exact (Kd.R_reads' HO_242000.out).2.1);(case side7=>refine (Kd.R_reads' (e:=3) (base:=w.heap.size) (ok:=fun k_=>(zx v291 k_∧(zx v294 k_∧(zx v297 k_∧(zx v300 k_∧(zx (sv Ao195 t302 co195) k_∧(zx (sv Ao197 t305 co197) k_∧(zx (sv Ao43 t234 co43) k_∧(zx (sv Ao51 t280 co51) k_∧(zx (sv Ao56 t281 co56) k_∧(zx (sv Ao61 t283 co61) k_∧(zx (sv Ao67 t284 co67) k_∧(zx (sv Ao73 t256 co73) k_∧zx (sv Ao80 t259 co80) k_))))))))))))) (n:=t237.length) (c:=co45) ?_).2.2;exact (zr zq3));(case side8=>exact (Kd.R_reads' HO_242001.out).2.1);rintro e w228 ⟨rfl,hb⟩;refine ⟨_,rfl,?_⟩;replace HO_242000:=zm (Kd.R_below (zr zq2) hb);replace HO_242001:=zm (Kd.R_below (zr zq3) hb);replace HO_249000:=zm (Kd.R_below (zr (zf2 HO_249000.out BK309.out 0 (.slice Ao195 t302.length co195) 1 (.slice Ao197 t305.length co197))) hb);replace HO_249001:=zm (Kd.R_below (zr (zf2 HO_249001.out BK309.out 0 (.slice Ao195 t302.length co195) 1 (.slice Ao197 t305.length co197))) hb);replace HO_256000:=zm (Kd.R_below (zr (zf2 HO_256000.out BK309.out 0 (.slice Ao195 t302.length co195) 1 (.slice Ao197 t305.length co197))) hb);replace HO_256001:=zm (Kd.R_below (zr (zf2 HO_256001.out BK309.out 0 (.slice Ao195 t302.length co195) 1 (.slice Ao197 t305.length co197))) hb);replace HO_264000:=zm (Kd.R_below (zr (zf2 HO_264000.out BK309.out 0 (.slice Ao195 t302.length co195) 1 (.slice Ao197 t305.length co197))) hb);replace HO_264001:=zm (Kd.R_below (zr (zf2 HO_264001.out BK309.out 0 (.slice Ao195 t302.length co195) 1 (.slice Ao197 t305.length co197))) hb);replace HO292:=zm (Kd.R_below (zr (zf2 HO292.out BK309.out 0 (.slice Ao195 t302.length co195) 1 (.slice Ao197 t305.length co197))) hb);replace HO295:=zm (Kd.R_below (zr (zf2 HO295.out BK309.out 0 (.slice Ao195 t302.length co195) 1 (.slice Ao197 t305.length co197))) hb);replace HO298:=zm (Kd.R_below (zr (zf2 HO298.out BK309.out 0 (.slice Ao195 t302.length co195) 1 (.slice Ao197 t305.length co197))) hb);replace HO301:=zm (Kd.R_below (zr (zf2 HO301.out BK309.out 0 (.slice Ao195 t302.length co195) 1 (.slice Ao197 t305.length co197))) hb);replace HO304:=zm (Kd.R_below (zr zq0) hb);replace HO307:=zm (Kd.R_below (zr zq1) hb);replace BK218:=zm (blk_below (g:=gb218) (o:=.cells #[.slice A0_0 l0_0.length c0_0,.slice A0_1 l0_1.length c0_1] 47 (0,0)) zbz hb);replace BK219:=zm (blk_below (g:=gb219) (o:=.cells #[.slice A1_0 l1_0.length c1_0,.slice A1_1 l1_1.length c1_1] 47 (0,0)) zbz hb);replace BK241:=zm (blk_below (g:=gb241) (o:=.cells #[.slice Ao43 t234.length co43,.slice Ao45 t237.length co45] 49 (0,0)) zbz hb);replace BK248:=zm (blk_below (g:=gb248) (o:=.cells #[.slice Ao51 t280.length co51,.slice Ao56 t281.length co56] 49 (0,0)) zbz hb);replace BK255:=zm (blk_below (g:=gb255) (o:=.cells #[.slice Ao61 t283.length co61,.slice Ao67 t284.length co67] 49 (0,0)) zbz hb);replace BK263:=zm (blk_below (g:=gb263) (o:=.cells #[.slice Ao73 t256.length co73,.slice Ao80 t259.length co80] 49 (0,0)) zbz hb);replace BK309:=zm (blk_below (g:=gb309) (o:=.cells #[.slice Ao195 t302.length co195,.slice Ao197 t305.length co197] 49 (0,0)) (by (with_reducible repeat (first|refine blk_drewN ?_ _|refine blk_drew ?_|refine blk_alloc ?_ _));refine blk_put (cs:=#[.slice Ao195 t302.length co195,.slice none 0 0]) ?_ 1 _ rfl;(with_reducible repeat (first|refine blk_drewN ?_ _|refine blk_drew ?_|refine blk_alloc ?_ _));refine blk_put (cs:=#[.slice none 0 0,.slice none 0 0]) ?_ 0 _ rfl;(with_reducible repeat (first|refine blk_drewN ?_ _|refine blk_drew ?_|refine blk_alloc ?_ _));exact BK309.out) hb);replace HB:=zm (below_step zl hb);(try clear hb)))
               go_meet
               case rel=>exact ⟨_,(true),(by first|rfl|(simp;done)|(simp [*];done)),H',⟨by have:=HJ24.out;have:=HJ115.out;first|omega|exact Nat.le_refl _⟩,⟨by (try simp only [hl249000_115]);(try simp only [hl249001_115]);(try simp only [hl256000_115]);(try simp only [hl256001_115]);(with_reducible repeat (first|apply Kd.R_alloc|apply Kd.R_drewN|apply Kd.R_drew));exact Kd.R_mono HO_242000.out (fun _ hk=>⟨hk.2.2.2.2.2.2.1,hk.2.2.2.2.2.2.2.1,hk.2.2.2.2.2.2.2.2.1,hk.2.2.2.2.2.2.2.2.2.1,hk.2.2.2.2.2.2.2.2.2.2.1,hk.2.2.2.2.2.2.2.2.2.2.2.1,hk.2.2.2.2.2.2.2.2.2.2.2.2,hk.2.2.2.2.1,hk.2.2.2.2.2.1⟩)⟩,⟨by (try simp only [hl249000_115]);(try simp only [hl249001_115]);(try simp only [hl256000_115]);(try simp only [hl256001_115]);(with_reducible repeat (first|apply Kd.R_alloc|apply Kd.R_drewN|apply Kd.R_drew));exact Kd.R_mono HO_242001.out (fun _ hk=>⟨hk.2.2.2.2.2.2.1,hk.2.2.2.2.2.2.2.1,hk.2.2.2.2.2.2.2.2.1,hk.2.2.2.2.2.2.2.2.2.1,hk.2.2.2.2.2.2.2.2.2.2.1,hk.2.2.2.2.2.2.2.2.2.2.2.1,hk.2.2.2.2.2.2.2.2.2.2.2.2,hk.2.2.2.2.1,hk.2.2.2.2.2.1⟩)⟩,⟨by (try simp only [hl249000_115]);(try simp only [hl249001_115]);(try simp only [hl256000_115]);(try simp only [hl256001_115]);(with_reducible repeat (first|apply Kd.R_alloc|apply Kd.R_drewN|apply Kd.R_drew));exact Kd.R_mono HO_249000.out (fun _ hk=>⟨hk.2.2.2.2.2.2.1,hk.2.2.2.2.2.2.2.1,hk.2.2.2.2.2.2.2.2.1,hk.2.2.2.2.2.2.2.2.2.1,hk.2.2.2.2.2.2.2.2.2.2.1,hk.2.2.2.2.2.2.2.2.2.2.2.1,hk.2.2.2.2.2.2.2.2.2.2.2.2,hk.2.2.2.2.1,hk.2.2.2.2.2.1⟩)⟩,⟨by (try simp only [hl249000_115]);(try simp only [hl249001_115]);(try simp only [hl256000_115]);(try simp only [hl256001_115]);(with_reducible repeat (first|apply Kd.R_alloc|apply Kd.R_drewN|apply Kd.R_drew));exact Kd.R_mono HO_249001.out (fun _ hk=>⟨hk.2.2.2.2.2.2.1,hk.2.2.2.2.2.2.2.1,hk.2.2.2.2.2.2.2.2.1,hk.2.2.2.2.2.2.2.2.2.1,hk.2.2.2.2.2.2.2.2.2.2.1,hk.2.2.2.2.2.2.2.2.2.2.2.1,hk.2.2.2.2.2.2.2.2.2.2.2.2,hk.2.2.2.2.1,hk.2.2.2.2.2.1⟩)⟩,⟨by (try simp only [hl249000_115]);(try simp only [hl249001_115]);(try simp only [hl256000_115]);(try simp only [hl256001_115]);(with_reducible repeat (first|apply Kd.R_alloc|apply Kd.R_drewN|apply Kd.R_drew));exact Kd.R_mono HO_256000.out (fun _ hk=>⟨hk.2.2.2.2.2.2.1,hk.2.2.2.2.2.2.2.1,hk.2.2.2.2.2.2.2.2.1,hk.2.2.2.2.2.2.2.2.2.1,hk.2.2.2.2.2.2.2.2.2.2.1,hk.2.2.2.2.2.2.2.2.2.2.2.1,hk.2.2.2.2.2.2.2.2.2.2.2.2,hk.2.2.2.2.1,hk.2.2.2.2.2.1⟩)⟩,⟨by (try simp only [hl249000_115]);(try simp only [hl249001_115]);(try simp only [hl256000_115]);(try simp only [hl256001_115]);(with_reducible repeat (first|apply Kd.R_alloc|apply Kd.R_drewN|apply Kd.R_drew));exact Kd.R_mono HO_256001.out (fun _ hk=>⟨hk.2.2.2.2.2.2.1,hk.2.2.2.2.2.2.2.1,hk.2.2.2.2.2.2.2.2.1,hk.2.2.2.2.2.2.2.2.2.1,hk.2.2.2.2.2.2.2.2.2.2.1,hk.2.2.2.2.2.2.2.2.2.2.2.1,hk.2.2.2.2.2.2.2.2.2.2.2.2,hk.2.2.2.2.1,hk.2.2.2.2.2.1⟩)⟩,⟨by (try simp only [hl249000_115]);(try simp only [hl249001_115]);(try simp only [hl256000_115]);(try simp only [hl256001_115]);(with_reducible repeat (first|apply Kd.R_alloc|apply Kd.R_drewN|apply Kd.R_drew));exact Kd.R_mono HO_264000.out (fun _ hk=>⟨hk.2.2.2.2.2.2.1,hk.2.2.2.2.2.2.2.1,hk.2.2.2.2.2.2.2.2.1,hk.2.2.2.2.2.2.2.2.2.1,hk.2.2.2.2.2.2.2.2.2.2.1,hk.2.2.2.2.2.2.2.2.2.2.2.1,hk.2.2.2.2.2.2.2.2.2.2.2.2,hk.2.2.2.2.1,hk.2.2.2.2.2.1⟩)⟩,⟨by (try simp only [hl249000_115]);(try simp only [hl249001_115]);(try simp only [hl256000_115]);(try simp only [hl256001_115]);(with_reducible repeat (first|apply Kd.R_alloc|apply Kd.R_drewN|apply Kd.R_drew));exact Kd.R_mono HO_264001.out (fun _ hk=>⟨hk.2.2.2.2.2.2.1,hk.2.2.2.2.2.2.2.1,hk.2.2.2.2.2.2.2.2.1,hk.2.2.2.2.2.2.2.2.2.1,hk.2.2.2.2.2.2.2.2.2.2.1,hk.2.2.2.2.2.2.2.2.2.2.2.1,hk.2.2.2.2.2.2.2.2.2.2.2.2,hk.2.2.2.2.1,hk.2.2.2.2.2.1⟩)⟩,⟨by (try simp only [hl249000_115]);(try simp only [hl249001_115]);(try simp only [hl256000_115]);(try simp only [hl256001_115]);(with_reducible repeat (first|apply Kd.R_alloc|apply Kd.R_drewN|apply Kd.R_drew));exact Kd.R_mono HO304.out (fun _ hk=>⟨hk.2.2.2.2.2.1,hk.2.2.2.2.2.2.1,hk.2.2.2.2.2.2.2.1,hk.2.2.2.2.2.2.2.2.1,hk.2.2.2.2.2.2.2.2.2.1,hk.2.2.2.2.2.2.2.2.2.2.1,hk.2.2.2.2.2.2.2.2.2.2.2.1,hk.2.2.2.2.2.2.2.2.2.2.2.2,hk.2.2.2.2.1⟩)⟩,⟨by (try simp only [hl249000_115]);(try simp only [hl249001_115]);(try simp only [hl256000_115]);(try simp only [hl256001_115]);(with_reducible repeat (first|apply Kd.R_alloc|apply Kd.R_drewN|apply Kd.R_drew));exact Kd.R_mono HO307.out (fun _ hk=>⟨hk.2.2.2.2.2.1,hk.2.2.2.2.2.2.1,hk.2.2.2.2.2.2.2.1,hk.2.2.2.2.2.2.2.2.1,hk.2.2.2.2.2.2.2.2.2.1,hk.2.2.2.2.2.2.2.2.2.2.1,hk.2.2.2.2.2.2.2.2.2.2.2.1,hk.2.2.2.2.2.2.2.2.2.2.2.2,hk.2.2.2.2.1⟩)⟩,⟨by (try simp only [hl249000_115]);(try simp only [hl249001_115]);(try simp only [hl256000_115]);(try simp only [hl256001_115]);(with_reducible repeat (first|refine blk_drewN ?_ _|refine blk_drew ?_|refine blk_alloc ?_ _));exact BK218.out⟩,⟨by (try simp only [hl249000_115]);(try simp only [hl249001_115]);(try simp only [hl256000_115]);(try simp only [hl256001_115]);(with_reducible repeat (first|refine blk_drewN ?_ _|refine blk_drew ?_|refine blk_alloc ?_ _));exact BK219.out⟩,⟨by (try simp only [hl249000_115]);(try simp only [hl249001_115]);(try simp only [hl256000_115]);(try simp only [hl256001_115]);(with_reducible repeat (first|refine blk_drewN ?_ _|refine blk_drew ?_|refine blk_alloc ?_ _));exact BK241.out⟩,⟨by (try simp only [hl249000_115]);(try simp only [hl249001_115]);(try simp only [hl256000_115]);(try simp only [hl256001_115]);(with_reducible repeat (first|refine blk_drewN ?_ _|refine blk_drew ?_|refine blk_alloc ?_ _));exact BK248.out⟩,⟨by (try simp only [hl249000_115]);(try simp only [hl249001_115]);(try simp only [hl256000_115]);(try simp only [hl256001_115]);(with_reducible repeat (first|refine blk_drewN ?_ _|refine blk_drew ?_|refine blk_alloc ?_ _));exact BK255.out⟩,⟨by (try simp only [hl249000_115]);(try simp only [hl249001_115]);(try simp only [hl256000_115]);(try simp only [hl256001_115]);(with_reducible repeat (first|refine blk_drewN ?_ _|refine blk_drew ?_|refine blk_alloc ?_ _));exact BK263.out⟩,⟨by (try simp only [hl249000_115]);(try simp only [hl249001_115]);(try simp only [hl256000_115]);(try simp only [hl256001_115]);(with_reducible repeat (first|refine blk_drewN ?_ _|refine blk_drew ?_|refine blk_alloc ?_ _));exact BK309.out⟩,⟨zl⟩⟩
             case rest =>
              clear HC175
              obtain ⟨kq,x110_174,rfl,HA,HJ174,HO_242000,HO_242001,HO_249000,HO_249001,HO_256000,HO_256001,HO_264000,HO_264001,HO_310000,HO_310001,BK218,BK219,BK241,BK248,BK255,BK263,BK309,HB⟩:=hcut
              have hl264000_174:=(Kd.R_reads' HO_264000.out).1
              rw [hl264000_174] at HO_264000
              (try simp only [hl264000_174])
              (try simp only [sv,hl264000_174] at BK218 BK219 BK241 BK248 BK255 BK263 BK309 HO_242000 HO_242001 HO_249000 HO_249001 HO_256000 HO_256001 HO_264001 HO_310000 HO_310001)
              have hl264001_174:=(Kd.R_reads' HO_264001.out).1
              rw [hl264001_174] at HO_264001
              (try simp only [hl264001_174])
              (try simp only [sv,hl264001_174] at BK218 BK219 BK241 BK248 BK255 BK263 BK309 HO_242000 HO_242001 HO_249000 HO_249001 HO_256000 HO_256001 HO_264000 HO_310000 HO_310001)
              cases kq with
              | zero => exact absurd HA.out (by simp [laws_FnExactCompose.j2])
              | succ kj174 =>
               have H:=HA.out
               clear HA
               simp only [laws_FnExactCompose.j2] at H
               by_cases c229:x110_174 = true
               ·subst c229
                have H1:(some false) = some true:=by first|with_reducible rfl|(rw [if_pos rfl] at H;exact H)
                clear H
                have H:=H1
                clear H1
                exact absurd H (by simp)
               ·replace c229:=Bool.eq_false_iff.mpr c229
                subst c229
                have H1:((laws_heldSubstitution.f kj174 t287 t288 1).bind fun t311=>(if t311 < 0 then (some false) else (if t311 = t286 then (some true) else (some false)))) = some true:=by first|with_reducible rfl|(rw [if_neg (show ¬ (false = true) by decide)] at H;exact H)
                clear H
                have H:=H1
                clear H1
                replace H:=Option.bind_eq_some_iff.mp H
                obtain ⟨t311,A2300,H⟩:=H
                replace H:(if t311 < 0 then (some false) else (if t311 = t286 then (some true) else (some false))) = some true:=H
                have A230:=Aside0.mk A2300
                clear A2300
                by_cases c231:t311 < 0
                ·rw [if_pos c231] at H
                 have c231b0:decide (t311 < 0) = true:=decide_eq_true c231
                 clear c231
                 exact absurd H (by simp)
                ·rw [if_neg c231] at H
                 have c231b0:decide (t311 < 0) = false:=decide_eq_false c231
                 clear c231
                 by_cases c232:t311 = t286
                 ·rw [if_pos c232] at H
                  have c232b0:(t311 == t286) = true:=beq_iff_eq.mpr c232
                  have c232b1:(t311 != t286) = false:=bne_eq_false_iff_eq.mpr c232
                  clear c232
                  clear H
                  have hnb233:=NB263_218.out
                  have hnc233:=NB218_263.out
                  have hnb234:=NB263_219.out
                  have hnc234:=NB219_263.out
                  have hnb235:=NB263_241.out
                  have hnc235:=NB241_263.out
                  have hnb236:=NB263_248.out
                  have hnc236:=NB248_263.out
                  have hnb237:=NB263_255.out
                  have hnc237:=NB255_263.out
                  have hnb238:=NB263_309.out
                  have hnc238:=NB309_263.out
                  have hcz239_0:wc.cell? ⟨gb263,0,none⟩ = some (.slice Ao73 t287.length co73):=zcl BK263.out 0
                  have hcz239_1:wc.cell? ⟨gb263,1,none⟩ = some (.slice Ao80 t288.length co80):=zcl BK263.out 1
                  have hfz239_0:=blk_frozen BK263.out 0
                  have hfz239_1:=blk_frozen BK263.out 1
                  go_wp2_with (first|((with_reducible refine gate_callee (f:=29) rfl ?_);refine zg (some 113) Try.func29 #[.agg #[.slice Ao73 t287.length co73,.slice Ao80 t288.length co80],.int .i64 1] ?_;(with_reducible refine (laws_heldSubstitution.calls kj174 _ _ t287 _ _ t288 1 t311 _ ?side1 ?side2 ?side3 ?side4 A230.out).mono ?_);(case side1=>exact zk HO_264000.out);(case side2=>exact (Kd.R_reads' HO_264000.out).2.1);(case side3=>exact zk HO_264001.out);(case side4=>exact (Kd.R_reads' HO_264001.out).2.1);rintro e w240 ⟨rfl,hb⟩;refine ⟨_,rfl,?_⟩;replace HO_242000:=zRb HO_242000 hb;replace HO_242001:=zRb HO_242001 hb;replace HO_249000:=zRb HO_249000 hb;replace HO_249001:=zRb HO_249001 hb;replace HO_256000:=zRb HO_256000 hb;replace HO_256001:=zRb HO_256001 hb;replace HO_264000:=zRb HO_264000 hb;replace HO_264001:=zRb HO_264001 hb;replace HO_310000:=zRb HO_310000 hb;replace HO_310001:=zRb HO_310001 hb;replace BK218:=zbk BK218 hb;replace BK219:=zbk BK219 hb;replace BK241:=zbk BK241 hb;replace BK248:=zbk BK248 hb;replace BK255:=zbk BK255 hb;replace BK263:=zbk BK263 hb;replace BK309:=zbk BK309 hb;replace HB:=zm (below_step zl hb);(try clear hb)))
                  go_ret
                  exact ⟨by first|rfl|(simp [errW_none,errW_some] <;> rfl)|(simp [*,errW_none,errW_some] <;> rfl),zl⟩
                 ·rw [if_neg c232] at H
                  have c232b0:(t311 == t286) = false:=beq_eq_false_iff_ne.mpr c232
                  have c232b1:(t311 != t286) = true:=bne_iff_ne.mpr c232
                  exact absurd H (by simp)
            ·rw [if_neg c171] at H
             have c171b0:(t289 == t286) = false:=beq_eq_false_iff_ne.mpr c171
             have c171b1:(t289 != t286) = true:=bne_iff_ne.mpr c171
             exact absurd H (by simp)
       ·replace c113:=Bool.eq_false_iff.mpr c113
        subst c113
        have H1:(some false) = some true:=by first|with_reducible rfl|(rw [if_neg (show ¬ (false = true) by decide)] at H;exact H)
        clear H
        have H:=H1
        clear H1
        exact absurd H (by simp)
      ·replace c110:=Bool.eq_false_iff.mpr c110
       subst c110
       have H1:(some false) = some true:=by first|with_reducible rfl|(rw [if_neg (show ¬ (false = true) by decide)] at H;exact H)
       clear H
       have H:=H1
       clear H1
       exact absurd H (by simp)

end Go.Proofs.Ytjphbdnfbkfgiaa.PFnExactCompose
