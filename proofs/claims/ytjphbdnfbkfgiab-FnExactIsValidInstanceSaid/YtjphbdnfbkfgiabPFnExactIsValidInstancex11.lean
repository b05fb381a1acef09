-- Written by a program of this session: the kit's printer, turned by wip/mkprint.py.
import Derived.Test.YtjphbdnfbkfgiabPFnExactIsValidInstancex0
import Derived.Test.YtjphbdnfbkfgiabPFnExactIsValidInstancex1
import Derived.Test.YtjphbdnfbkfgiabPFnExactIsValidInstancex2
import Derived.Test.YtjphbdnfbkfgiabPFnExactIsValidInstancex5
import Derived.Test.YtjphbdnfbkfgiabPFnExactIsValidInstancex9
import Derived.Test.YtjphbdnfbkfgiabPFnExactIsValidInstancex10
namespace Go.Proofs.Ytjphbdnfbkfgiab.PFnExactIsValidInstance
open Go.RowKit Go.Proofs.YtjphbdnfbkfgiabW.PrintWords Go.Proofs.YtjphbdnfbkfgiabW.PrintLast Go.Proofs.YtjphbdnfbkfgiabW.PrintMore
attribute [local go_sem] max2_int min2_int max_two min_two max_three min_three max_four min_four   -- for this text's walks alone
set_option linter.unusedVariables false
set_option linter.unusedSimpArgs false

/-! ### laws_eqInstance: function 11 -/
def laws_eqInstance.f (k : Nat) (l0_0 : List (S62)) (l0_1 : List (S44)) (l1_0 : List (S62)) (l1_1 : List (S44)) : Option (Bool) := (laws_eqRelationS.f k l0_0 l1_0).bind fun t321 => (if t321 = true then ((laws_eqFactS.f k l0_1 l1_1).bind fun t322 => (if t322 = true then (some true) else (some false))) else (some false))
theorem laws_eqInstance.mono : ∀ a0 a1 a2 a3 k, LeO (laws_eqInstance.f k a0 a1 a2 a3) (laws_eqInstance.f (k + 1) a0 a1 a2 a3) := by
 intro a0 a1 a2 a3 k
 unfold laws_eqInstance.f
 repeat' first
   | (with_reducible exact laws_eqFactS.mono _ _ _)
   | (with_reducible exact laws_eqRelationS.mono _ _ _)
   | (with_reducible exact LeO.refl _)
   | (with_reducible exact LeO.none _)
   | (with_reducible refine LeO.ite ?_ ?_)
   | (with_reducible refine LeO.bind ?_ (fun _ => ?_))
   | exact laws_eqFactS.mono _ _ _
   | exact laws_eqRelationS.mono _ _ _
   | exact LeO.none _
   | refine LeO.ite ?_ ?_
   | refine LeO.bind ?_ (fun _ => ?_)
set_option maxHeartbeats 8000000 in
set_option maxRecDepth 100000 in
theorem laws_eqInstance.calls (k : Nat) (A0_0 : Option Addr) (c0_0 : Nat) (l0_0 : List (S62)) (A0_1 : Option Addr) (c0_1 : Nat) (l0_1 : List (S44)) (A1_0 : Option Addr) (c1_0 : Nat) (l1_0 : List (S62)) (A1_1 : Option Addr) (c1_1 : Nat) (l1_1 : List (S44)) (r : Bool) (w : World) (hr0_0 : Kd.C k62 w A0_0 l0_0.length l0_0) (hc0_0 : l0_0.length ≤ c0_0) (hr0_1 : Kd.C k44 w A0_1 l0_1.length l0_1) (hc0_1 : l0_1.length ≤ c0_1) (hr1_0 : Kd.C k62 w A1_0 l1_0.length l1_0) (hc1_0 : l1_0.length ≤ c1_0) (hr1_1 : Kd.C k44 w A1_1 l1_1.length l1_1) (hc1_1 : l1_1.length ≤ c1_1) (h : laws_eqInstance.f k l0_0 l0_1 l1_0 l1_1 = some r) :
  Calls Try.prog 11 #[.agg #[.slice A0_0 l0_0.length c0_0, .slice A0_1 l0_1.length c0_1], .agg #[.slice A1_0 l1_0.length c1_0, .slice A1_1 l1_1.length c1_1]] w fun e w' => e = .returned (.bool r) ∧ Below w.heap.size w w' := by
 have hu32 := Try.underlying32
 have HR0_0 := Aside0.mk hr0_0
 have HC0_0 := Aside0.mk hc0_0
 clear hr0_0 hc0_0
 have HR0_1 := Aside0.mk hr0_1
 have HC0_1 := Aside0.mk hc0_1
 clear hr0_1 hc0_1
 have HR1_0 := Aside0.mk hr1_0
 have HC1_0 := Aside0.mk hc1_0
 clear hr1_0 hc1_0
 have HR1_1 := Aside0.mk hr1_1
 have HC1_1 := Aside0.mk hc1_1
 clear hr1_1 hc1_1
 have HB := Aside0.mk (Below.refl w.heap.size w)
 have H : ((laws_eqRelationS.f k l0_0 l1_0).bind fun t321 => (if t321 = true then ((laws_eqFactS.f k l0_1 l1_1).bind fun t322 => (if t322 = true then (some true) else (some false))) else (some false))) = some r := h
 clear h
 replace H := Option.bind_eq_some_iff.mp H
 obtain ⟨t321, A30, H⟩ := H
 replace H : (if t321 = true then ((laws_eqFactS.f k l0_1 l1_1).bind fun t322 => (if t322 = true then (some true) else (some false))) else (some false)) = some r := H
 have A3 := Aside0.mk A30
 clear A30
 by_cases c4 : t321 = true
 ·subst c4
  have H1 : ((laws_eqFactS.f k l0_1 l1_1).bind fun t322 => (if t322 = true then (some true) else (some false))) = some r := by first | with_reducible rfl | (rw [if_pos rfl] at H; exact H)
  clear H
  have H := H1
  clear H1
  replace H := Option.bind_eq_some_iff.mp H
  obtain ⟨t322, A50, H⟩ := H
  replace H : (if t322 = true then (some true) else (some false)) = some r := H
  have A5 := Aside0.mk A50
  clear A50
  by_cases c6 : t322 = true
  ·subst c6
   have H1 : (some true) = some r := by first | with_reducible rfl | (rw [if_pos rfl] at H; exact H)
   clear H
   have H := H1
   clear H1
   obtain rfl := Option.some.inj H
   go_enter Try.func11, Try.ntmps11
   go_wp2_with (first | ((with_reducible refine gate_dst (N := 2) rfl ?_); refine box_event ?hg (N := 2) ?hd (cs := #[.slice A0_0 l0_0.length c0_0, .slice A0_1 l0_1.length c0_1]) (t := 32) ?hr ?_; (case hd => rfl); (case hg => rfl); (case hr => first | (go_simp; done) | (go_simp; rfl)); intro gb319 hg w7 hbox hb; have BK319 := zm (hbox); have GW319 := zm ((by rw [hg]; exact (below_size zl) : w.heap.size ≤ gb319)); have GE319 := zm ((by rw [hg]; exact (below_size zl) : w.heap.size ≤ gb319)); replace HB := zm (below_step zl hb); clear hb hbox hg) | ((with_reducible refine gate_dst (N := 3) rfl ?_); refine box_event ?hg (N := 3) ?hd (cs := #[.slice A1_0 l1_0.length c1_0, .slice A1_1 l1_1.length c1_1]) (t := 32) ?hr ?_; (case hd => rfl); (case hg => rfl); (case hr => first | (go_simp; done) | (go_simp; rfl)); intro gb320 hg w8 hbox hb; have BK320 := zm (hbox); have GW320 := zm ((by rw [hg]; exact (below_size zl) : w.heap.size ≤ gb320)); have GE320 := zm ((by rw [hg]; exact (below_size zl) : w.heap.size ≤ gb320)); replace HB := zm (below_step zl hb); have NB319_320 := zm (zl1 hg (zb BK319.out)); have NB320_319 := zm (zl2 hg (zb BK319.out)); replace BK319 := zm (blk_below (zb BK319.out) hb); clear hb hbox hg; have hnb9 := NB319_320.out; have hnc9 := NB320_319.out; have hcz10_0 : w8.cell? ⟨gb319, 0, none⟩ = some (.slice A0_0 l0_0.length c0_0) := (blk_cell BK319.out 0).trans rfl; have hcz10_1 : w8.cell? ⟨gb319, 1, none⟩ = some (.slice A0_1 l0_1.length c0_1) := (blk_cell BK319.out 1).trans rfl; have hfz10_0 := blk_frozen BK319.out 0; have hfz10_1 := blk_frozen BK319.out 1; have hcz11_0 : w8.cell? ⟨gb320, 0, none⟩ = some (.slice A1_0 l1_0.length c1_0) := (blk_cell BK320.out 0).trans rfl; have hcz11_1 : w8.cell? ⟨gb320, 1, none⟩ = some (.slice A1_1 l1_1.length c1_1) := (blk_cell BK320.out 1).trans rfl; have hfz11_0 := blk_frozen BK320.out 0; have hfz11_1 := blk_frozen BK320.out 1) | ((with_reducible refine gate_callee (f := 29) rfl ?_); refine zg (some 9) Try.func29 #[.slice A0_0 l0_0.length c0_0, .slice A1_0 l1_0.length c1_0] ?_; (with_reducible refine (laws_eqRelationS.calls k _ _ l0_0 _ _ l1_0 true _ ?side1 ?side2 ?side3 ?side4 A3.out).mono ?_); (case side1 => exact zc HR0_0.out); (case side2 => exact HC0_0.out); (case side3 => exact zc HR1_0.out); (case side4 => exact HC1_0.out); rintro e w12 ⟨rfl, hb⟩; refine ⟨_, rfl, ?_⟩; replace BK319 := zm (blk_below (zb BK319.out) hb); replace BK320 := zm (blk_below (zb BK320.out) hb); replace HB := zm (below_step zl hb); (try clear hb); have hcz13_0 : w12.cell? ⟨gb319, 0, none⟩ = some (.slice A0_0 l0_0.length c0_0) := (blk_cell BK319.out 0).trans rfl; have hcz13_1 : w12.cell? ⟨gb319, 1, none⟩ = some (.slice A0_1 l0_1.length c0_1) := (blk_cell BK319.out 1).trans rfl; have hfz13_0 := blk_frozen BK319.out 0; have hfz13_1 := blk_frozen BK319.out 1; have hcz14_0 : w12.cell? ⟨gb320, 0, none⟩ = some (.slice A1_0 l1_0.length c1_0) := (blk_cell BK320.out 0).trans rfl; have hcz14_1 : w12.cell? ⟨gb320, 1, none⟩ = some (.slice A1_1 l1_1.length c1_1) := (blk_cell BK320.out 1).trans rfl; have hfz14_0 := blk_frozen BK320.out 0; have hfz14_1 := blk_frozen BK320.out 1) | ((with_reducible refine gate_callee (f := 30) rfl ?_); refine zg (some 15) Try.func30 #[.slice A0_1 l0_1.length c0_1, .slice A1_1 l1_1.length c1_1] ?_; (with_reducible refine (laws_eqFactS.calls k _ _ l0_1 _ _ l1_1 true _ ?side1 ?side2 ?side3 ?side4 A5.out).mono ?_); (case side1 => exact zc HR0_1.out); (case side2 => exact HC0_1.out); (case side3 => exact zc HR1_1.out); (case side4 => exact HC1_1.out); rintro e w15 ⟨rfl, hb⟩; refine ⟨_, rfl, ?_⟩; replace BK319 := zm (blk_below (zb BK319.out) hb); replace BK320 := zm (blk_below (zb BK320.out) hb); replace HB := zm (below_step zl hb); (try clear hb)))
   go_ret
   exact ⟨by first | rfl | (simp [errW_none, errW_some] <;> rfl) | (simp [*, errW_none, errW_some] <;> rfl), zl⟩
  ·replace c6 := Bool.eq_false_iff.mpr c6
   subst c6
   have H1 : (some false) = some r := by first | with_reducible rfl | (rw [if_neg (show ¬ (false = true) by decide)] at H; exact H)
   clear H
   have H := H1
   clear H1
   obtain rfl := Option.some.inj H
   go_enter Try.func11, Try.ntmps11
   go_wp2_with (first | ((with_reducible refine gate_dst (N := 2) rfl ?_); refine box_event ?hg (N := 2) ?hd (cs := #[.slice A0_0 l0_0.length c0_0, .slice A0_1 l0_1.length c0_1]) (t := 32) ?hr ?_; (case hd => rfl); (case hg => rfl); (case hr => first | (go_simp; done) | (go_simp; rfl)); intro gb319 hg w16 hbox hb; have BK319 := zm (hbox); have GW319 := zm ((by rw [hg]; exact (below_size zl) : w.heap.size ≤ gb319)); have GE319 := zm ((by rw [hg]; exact (below_size zl) : w.heap.size ≤ gb319)); replace HB := zm (below_step zl hb); clear hb hbox hg) | ((with_reducible refine gate_dst (N := 3) rfl ?_); refine box_event ?hg (N := 3) ?hd (cs := #[.slice A1_0 l1_0.length c1_0, .slice A1_1 l1_1.length c1_1]) (t := 32) ?hr ?_; (case hd => rfl); (case hg => rfl); (case hr => first | (go_simp; done) | (go_simp; rfl)); intro gb320 hg w17 hbox hb; have BK320 := zm (hbox); have GW320 := zm ((by rw [hg]; exact (below_size zl) : w.heap.size ≤ gb320)); have GE320 := zm ((by rw [hg]; exact (below_size zl) : w.heap.size ≤ gb320)); replace HB := zm (below_step zl hb); have NB319_320 := zm (zl1 hg (zb BK319.out)); have NB320_319 := zm (zl2 hg (zb BK319.out)); replace BK319 := zm (blk_below (zb BK319.out) hb); clear hb hbox hg; have hnb18 := NB319_320.out; have hnc18 := NB320_319.out; have hcz19_0 : w17.cell? ⟨gb319, 0, none⟩ = some (.slice A0_0 l0_0.length c0_0) := (blk_cell BK319.out 0).trans rfl; have hcz19_1 : w17.cell? ⟨gb319, 1, none⟩ = some (.slice A0_1 l0_1.length c0_1) := (blk_cell BK319.out 1).trans rfl; have hfz19_0 := blk_frozen BK319.out 0; have hfz19_1 := blk_frozen BK319.out 1; have hcz20_0 : w17.cell? ⟨gb320, 0, none⟩ = some (.slice A1_0 l1_0.length c1_0) := (blk_cell BK320.out 0).trans rfl; have hcz20_1 : w17.cell? ⟨gb320, 1, none⟩ = some (.slice A1_1 l1_1.length c1_1) := (blk_cell BK320.out 1).trans rfl; have hfz20_0 := blk_frozen BK320.out 0; have hfz20_1 := blk_frozen BK320.out 1) | ((with_reducible refine gate_callee (f := 29) rfl ?_); refine zg (some 9) Try.func29 #[.slice A0_0 l0_0.length c0_0, .slice A1_0 l1_0.length c1_0] ?_; (with_reducible refine (laws_eqRelationS.calls k _ _ l0_0 _ _ l1_0 true _ ?side1 ?side2 ?side3 ?side4 A3.out).mono ?_); (case side1 => exact zc HR0_0.out); (case side2 => exact HC0_0.out); (case side3 => exact zc HR1_0.out); (case side4 => exact HC1_0.out); rintro e w21 ⟨rfl, hb⟩; refine ⟨_, rfl, ?_⟩; replace BK319 := zm (blk_below (zb BK319.out) hb); replace BK320 := zm (blk_below (zb BK320.out) hb); replace HB := zm (below_step zl hb); (try clear hb); have hcz22_0 : w21.cell? ⟨gb319, 0, none⟩ = some (.slice A0_0 l0_0.length c0_0) := (blk_cell BK319.out 0).trans rfl; have hcz22_1 : w21.cell? ⟨gb319, 1, none⟩ = some (.slice A0_1 l0_1.length c0_1) := (blk_cell BK319.out 1).trans rfl; have hfz22_0 := blk_frozen BK319.out 0; have hfz22_1 := blk_frozen BK319.out 1; have hcz23_0 : w21.cell? ⟨gb320, 0, none⟩ = some (.slice A1_0 l1_0.length c1_0) := (blk_cell BK320.out 0).trans rfl; have hcz23_1 : w21.cell? ⟨gb320, 1, none⟩ = some (.slice A1_1 l1_1.length c1_1) := (blk_cell BK320.out 1).trans rfl; have hfz23_0 := blk_frozen BK320.out 0; have hfz23_1 := blk_frozen BK320.out 1) | ((with_reducible refine gate_callee (f := 30) rfl ?_); refine zg (some 15) Try.func30 #[.slice A0_1 l0_1.length c0_1, .slice A1_1 l1_1.length c1_1] ?_; (with_reducible refine (laws_eqFactS.calls k _ _ l0_1 _ _ l1_1 false _ ?side1 ?side2 ?side3 ?side4 A5.out).mono ?_); (case side1 => exact zc HR0_1.out); (case side2 => exact HC0_1.out); (case side3 => exact zc HR1_1.out); (case side4 => exact HC1_1.out); rintro e w24 ⟨rfl, hb⟩; refine ⟨_, rfl, ?_⟩; replace BK319 := zm (blk_below (zb BK319.out) hb); replace BK320 := zm (blk_below (zb BK320.out) hb); replace HB := zm (below_step zl hb); (try clear hb)))
   go_ret
   exact ⟨by first | rfl | (simp [errW_none, errW_some] <;> rfl) | (simp [*, errW_none, errW_some] <;> rfl), zl⟩
 ·replace c4 := Bool.eq_false_iff.mpr c4
  subst c4
  have H1 : (some false) = some r := by first | with_reducible rfl | (rw [if_neg (show ¬ (false = true) by decide)] at H; exact H)
  clear H
  have H := H1
  clear H1
  obtain rfl := Option.some.inj H
  go_enter Try.func11, Try.ntmps11
  go_wp2_with (first | ((with_reducible refine gate_dst (N := 2) rfl ?_); refine box_event ?hg (N := 2) ?hd (cs := #[.slice A0_0 l0_0.length c0_0, .slice A0_1 l0_1.length c0_1]) (t := 32) ?hr ?_; (case hd => rfl); (case hg => rfl); (case hr => first | (go_simp; done) | (go_simp; rfl)); intro gb319 hg w25 hbox hb; have BK319 := zm (hbox); have GW319 := zm ((by rw [hg]; exact (below_size zl) : w.heap.size ≤ gb319)); have GE319 := zm ((by rw [hg]; exact (below_size zl) : w.heap.size ≤ gb319)); replace HB := zm (below_step zl hb); clear hb hbox hg) | ((with_reducible refine gate_dst (N := 3) rfl ?_); refine box_event ?hg (N := 3) ?hd (cs := #[.slice A1_0 l1_0.length c1_0, .slice A1_1 l1_1.length c1_1]) (t := 32) ?hr ?_; (case hd => rfl); (case hg => rfl); (case hr => first | (go_simp; done) | (go_simp; rfl)); intro gb320 hg w26 hbox hb; have BK320 := zm (hbox); have GW320 := zm ((by rw [hg]; exact (below_size zl) : w.heap.size ≤ gb320)); have GE320 := zm ((by rw [hg]; exact (below_size zl) : w.heap.size ≤ gb320)); replace HB := zm (below_step zl hb); have NB319_320 := zm (zl1 hg (zb BK319.out)); have NB320_319 := zm (zl2 hg (zb BK319.out)); replace BK319 := zm (blk_below (zb BK319.out) hb); clear hb hbox hg; have hnb27 := NB319_320.out; have hnc27 := NB320_319.out; have hcz28_0 : w26.cell? ⟨gb319, 0, none⟩ = some (.slice A0_0 l0_0.length c0_0) := (blk_cell BK319.out 0).trans rfl; have hcz28_1 : w26.cell? ⟨gb319, 1, none⟩ = some (.slice A0_1 l0_1.length c0_1) := (blk_cell BK319.out 1).trans rfl; have hfz28_0 := blk_frozen BK319.out 0; have hfz28_1 := blk_frozen BK319.out 1; have hcz29_0 : w26.cell? ⟨gb320, 0, none⟩ = some (.slice A1_0 l1_0.length c1_0) := (blk_cell BK320.out 0).trans rfl; have hcz29_1 : w26.cell? ⟨gb320, 1, none⟩ = some (.slice A1_1 l1_1.length c1_1) := (blk_cell BK320.out 1).trans rfl; have hfz29_0 := blk_frozen BK320.out 0; have hfz29_1 := blk_frozen BK320.out 1) | ((with_reducible refine gate_callee (f := 29) rfl ?_); refine zg (some 9) Try.func29 #[.slice A0_0 l0_0.length c0_0, .slice A1_0 l1_0.length c1_0] ?_; (with_reducible refine (laws_eqRelationS.calls k _ _ l0_0 _ _ l1_0 false _ ?side1 ?side2 ?side3 ?side4 A3.out).mono ?_); (case side1 => exact zc HR0_0.out); (case side2 => exact HC0_0.out); (case side3 => exact zc HR1_0.out); (case side4 => exact HC1_0.out); rintro e w30 ⟨rfl, hb⟩; refine ⟨_, rfl, ?_⟩; replace BK319 := zm (blk_below (zb BK319.out) hb); replace BK320 := zm (blk_below (zb BK320.out) hb); replace HB := zm (below_step zl hb); (try clear hb)))
  go_ret
  exact ⟨by first | rfl | (simp [errW_none, errW_some] <;> rfl) | (simp [*, errW_none, errW_some] <;> rfl), zl⟩

/-! ### laws_FnExactIsValidInstance: function 4 -/
def laws_FnExactIsValidInstance.f (k : Nat) (l0_0 : List (S67)) (l0_1 : List (S41)) : Option (Bool) := (laws_szInstance.f k l0_0 l0_1 1048576).bind fun t324 => (if t324 < 0 then (some true) else ((laws_toInstance.f k l0_0 l0_1).bind fun bt325 => ((spec_IsValidInstance.f k bt325.1 bt325.2).bind fun t331 => ((laws_toInstance.f k l0_0 l0_1).bind fun bt332 => ((impl_IsValidInstance.f k bt332.1 bt332.2).bind fun t339 => (if (t339 != t331) = true then (some false) else ((laws_toInstance.f k l0_0 l0_1).bind fun bt340 => ((laws_eqInstance.f k bt332.1 bt332.2 bt340.1 bt340.2).bind fun t346 => (if t346 = true then (some true) else (some false))))))))))
theorem laws_FnExactIsValidInstance.mono : ∀ a0 a1 k, LeO (laws_FnExactIsValidInstance.f k a0 a1) (laws_FnExactIsValidInstance.f (k + 1) a0 a1) := by
 intro a0 a1 k
 unfold laws_FnExactIsValidInstance.f
 repeat' first
   | (with_reducible exact impl_IsValidInstance.mono _ _ _)
   | (with_reducible exact laws_eqInstance.mono _ _ _ _ _)
   | (with_reducible exact laws_szInstance.mono _ _ _ _)
   | (with_reducible exact laws_toInstance.mono _ _ _)
   | (with_reducible exact spec_IsValidInstance.mono _ _ _)
   | (with_reducible exact LeO.refl _)
   | (with_reducible exact LeO.none _)
   | (with_reducible refine LeO.ite ?_ ?_)
   | (with_reducible refine LeO.bind ?_ (fun _ => ?_))
   | exact impl_IsValidInstance.mono _ _ _
   | exact laws_eqInstance.mono _ _ _ _ _
   | exact laws_szInstance.mono _ _ _ _
   | exact laws_toInstance.mono _ _ _
   | exact spec_IsValidInstance.mono _ _ _
   | exact LeO.none _
   | refine LeO.ite ?_ ?_
   | refine LeO.bind ?_ (fun _ => ?_)
set_option maxHeartbeats 8000000 in
set_option maxRecDepth 100000 in
theorem laws_FnExactIsValidInstance.calls (k : Nat) (A0_0 : Option Addr) (c0_0 : Nat) (l0_0 : List (S67)) (A0_1 : Option Addr) (c0_1 : Nat) (l0_1 : List (S41)) (w : World) (hr0_0 : Kd.C k67 w A0_0 l0_0.length l0_0) (hc0_0 : l0_0.length ≤ c0_0) (hr0_1 : Kd.C k41 w A0_1 l0_1.length l0_1) (hc0_1 : l0_1.length ≤ c0_1) (h : laws_FnExactIsValidInstance.f k l0_0 l0_1 = some true) :
  Calls Try.prog 4 #[.agg #[.slice A0_0 l0_0.length c0_0, .slice A0_1 l0_1.length c0_1]] w fun e w' => e = .returned (.bool true) ∧ Below w.heap.size w w' := by
 have hu25 := Try.underlying25
 have hu32 := Try.underlying32
 have HR0_0 := Aside0.mk hr0_0
 have HC0_0 := Aside0.mk hc0_0
 clear hr0_0 hc0_0
 have HR0_1 := Aside0.mk hr0_1
 have HC0_1 := Aside0.mk hc0_1
 clear hr0_1 hc0_1
 have HB := Aside0.mk (Below.refl w.heap.size w)
 have H : ((laws_szInstance.f k l0_0 l0_1 1048576).bind fun t324 => (if t324 < 0 then (some true) else ((laws_toInstance.f k l0_0 l0_1).bind fun bt325 => ((spec_IsValidInstance.f k bt325.1 bt325.2).bind fun t331 => ((laws_toInstance.f k l0_0 l0_1).bind fun bt332 => ((impl_IsValidInstance.f k bt332.1 bt332.2).bind fun t339 => (if (t339 != t331) = true then (some false) else ((laws_toInstance.f k l0_0 l0_1).bind fun bt340 => ((laws_eqInstance.f k bt332.1 bt332.2 bt340.1 bt340.2).bind fun t346 => (if t346 = true then (some true) else (some false))))))))))) = some true := h
 clear h
 replace H := Option.bind_eq_some_iff.mp H
 obtain ⟨t324, A20, H⟩ := H
 replace H : (if t324 < 0 then (some true) else ((laws_toInstance.f k l0_0 l0_1).bind fun bt325 => ((spec_IsValidInstance.f k bt325.1 bt325.2).bind fun t331 => ((laws_toInstance.f k l0_0 l0_1).bind fun bt332 => ((impl_IsValidInstance.f k bt332.1 bt332.2).bind fun t339 => (if (t339 != t331) = true then (some false) else ((laws_toInstance.f k l0_0 l0_1).bind fun bt340 => ((laws_eqInstance.f k bt332.1 bt332.2 bt340.1 bt340.2).bind fun t346 => (if t346 = true then (some true) else (some false)))))))))) = some true := H
 have A2 := Aside0.mk A20
 clear A20
 by_cases c3 : t324 < 0
 ·rw [if_pos c3] at H
  have c3b0 : decide (t324 < 0) = true := decide_eq_true c3
  clear c3
  clear H
  go_enter Try.func4, Try.ntmps4
  go_wp2_with (first | ((with_reducible refine gate_dst (N := 1) rfl ?_); refine box_event ?hg (N := 1) ?hd (cs := #[.slice A0_0 l0_0.length c0_0, .slice A0_1 l0_1.length c0_1]) (t := 25) ?hr ?_; (case hd => rfl); (case hg => rfl); (case hr => first | (go_simp; done) | (go_simp; rfl)); intro gb323 hg w4 hbox hb; have BK323 := zm (hbox); have GW323 := zm ((by rw [hg]; exact (below_size zl) : w.heap.size ≤ gb323)); have GE323 := zm ((by rw [hg]; exact (below_size zl) : w.heap.size ≤ gb323)); replace HB := zm (below_step zl hb); clear hb hbox hg; have hcz5_0 : w4.cell? ⟨gb323, 0, none⟩ = some (.slice A0_0 l0_0.length c0_0) := (blk_cell BK323.out 0).trans rfl; have hcz5_1 : w4.cell? ⟨gb323, 1, none⟩ = some (.slice A0_1 l0_1.length c0_1) := (blk_cell BK323.out 1).trans rfl; have hfz5_0 := blk_frozen BK323.out 0; have hfz5_1 := blk_frozen BK323.out 1) | ((with_reducible refine gate_callee (f := 6) rfl ?_); refine zg (some 9) Try.func6 #[.agg #[.slice A0_0 l0_0.length c0_0, .slice A0_1 l0_1.length c0_1], .int .i64 1048576] ?_; (with_reducible refine (laws_szInstance.calls k _ _ l0_0 _ _ l0_1 1048576 t324 _ ?side1 ?side2 ?side3 ?side4 A2.out).mono ?_); (case side1 => exact zc HR0_0.out); (case side2 => exact HC0_0.out); (case side3 => exact zc HR0_1.out); (case side4 => exact HC0_1.out); rintro e w6 ⟨rfl, hb⟩; refine ⟨_, rfl, ?_⟩; replace BK323 := zm (blk_below (zb BK323.out) hb); replace HB := zm (below_step zl hb); (try clear hb)))
  go_ret
  exact ⟨by first | rfl | (simp [errW_none, errW_some] <;> rfl) | (simp [*, errW_none, errW_some] <;> rfl), zl⟩
 ·rw [if_neg c3] at H
  have c3b0 : decide (t324 < 0) = false := decide_eq_false c3
  clear c3
  replace H := Option.bind_eq_some_iff.mp H
  obtain ⟨⟨t325, t328⟩, A70, H⟩ := H
  replace H : ((spec_IsValidInstance.f k t325 t328).bind fun t331 => ((laws_toInstance.f k l0_0 l0_1).bind fun bt332 => ((impl_IsValidInstance.f k bt332.1 bt332.2).bind fun t339 => (if (t339 != t331) = true then (some false) else ((laws_toInstance.f k l0_0 l0_1).bind fun bt340 => ((laws_eqInstance.f k bt332.1 bt332.2 bt340.1 bt340.2).bind fun t346 => (if t346 = true then (some true) else (some false)))))))) = some true := H
  have A7 := Aside0.mk A70
  clear A70
  replace H := Option.bind_eq_some_iff.mp H
  obtain ⟨t331, A80, H⟩ := H
  replace H : ((laws_toInstance.f k l0_0 l0_1).bind fun bt332 => ((impl_IsValidInstance.f k bt332.1 bt332.2).bind fun t339 => (if (t339 != t331) = true then (some false) else ((laws_toInstance.f k l0_0 l0_1).bind fun bt340 => ((laws_eqInstance.f k bt332.1 bt332.2 bt340.1 bt340.2).bind fun t346 => (if t346 = true then (some true) else (some false))))))) = some true := H
  have A8 := Aside0.mk A80
  clear A80
  replace H := Option.bind_eq_some_iff.mp H
  obtain ⟨⟨t332, t335⟩, A90, H⟩ := H
  replace H : ((impl_IsValidInstance.f k t332 t335).bind fun t339 => (if (t339 != t331) = true then (some false) else ((laws_toInstance.f k l0_0 l0_1).bind fun bt340 => ((laws_eqInstance.f k t332 t335 bt340.1 bt340.2).bind fun t346 => (if t346 = true then (some true) else (some false)))))) = some true := H
  have A9 := Aside0.mk A90
  clear A90
  replace H := Option.bind_eq_some_iff.mp H
  obtain ⟨t339, A100, H⟩ := H
  replace H : (if (t339 != t331) = true then (some false) else ((laws_toInstance.f k l0_0 l0_1).bind fun bt340 => ((laws_eqInstance.f k t332 t335 bt340.1 bt340.2).bind fun t346 => (if t346 = true then (some true) else (some false))))) = some true := H
  have A10 := Aside0.mk A100
  clear A100
  by_cases c11 : (t339 != t331) = true
  ·rw [if_pos c11] at H
   have c11b0 : (t339 != t331) = true := c11
   (try (have c11b1 : decide (t339 = t331) = false := by simpa using c11))
   (try (have c11b2 : (t339 == t331) = false := by simpa using c11))
   (try (have c11b3 : ¬ (t339 = t331) := by simpa using c11))
   clear c11
   exact absurd H (by simp)
  ·rw [if_neg c11] at H
   have c11b0 : (t339 != t331) = false := by simpa using c11
   (try (have c11b1 : decide (t339 = t331) = true := by simpa using c11))
   (try (have c11b2 : (t339 == t331) = true := by simpa using c11))
   clear c11
   replace H := Option.bind_eq_some_iff.mp H
   obtain ⟨⟨t340, t343⟩, A120, H⟩ := H
   replace H : ((laws_eqInstance.f k t332 t335 t340 t343).bind fun t346 => (if t346 = true then (some true) else (some false))) = some true := H
   have A12 := Aside0.mk A120
   clear A120
   replace H := Option.bind_eq_some_iff.mp H
   obtain ⟨t346, A130, H⟩ := H
   replace H : (if t346 = true then (some true) else (some false)) = some true := H
   have A13 := Aside0.mk A130
   clear A130
   by_cases c14 : t346 = true
   ·subst c14
    have H1 : (some true) = some true := by first | with_reducible rfl | (rw [if_pos rfl] at H; exact H)
    clear H
    have H := H1
    clear H1
    clear H
    go_enter Try.func4, Try.ntmps4
    try go_wp2_with (first | ((with_reducible refine gate_dst (N := 1) rfl ?_); refine box_event ?hg (N := 1) ?hd (cs := #[.slice A0_0 l0_0.length c0_0, .slice A0_1 l0_1.length c0_1]) (t := 25) ?hr ?_; (case hd => rfl); (case hg => rfl); (case hr => first | (go_simp; done) | (go_simp; rfl)); intro gb323 hg w15 hbox hb; have BK323 := zm (hbox); have GW323 := zm ((by rw [hg]; exact (below_size zl) : w.heap.size ≤ gb323)); have GE323 := zm ((by rw [hg]; exact (below_size zl) : w.heap.size ≤ gb323)); replace HB := zm (below_step zl hb); clear hb hbox hg; have hcz16_0 : w15.cell? ⟨gb323, 0, none⟩ = some (.slice A0_0 l0_0.length c0_0) := (blk_cell BK323.out 0).trans rfl; have hcz16_1 : w15.cell? ⟨gb323, 1, none⟩ = some (.slice A0_1 l0_1.length c0_1) := (blk_cell BK323.out 1).trans rfl; have hfz16_0 := blk_frozen BK323.out 0; have hfz16_1 := blk_frozen BK323.out 1) | ((with_reducible refine gate_callee (f := 6) rfl ?_); refine zg (some 9) Try.func6 #[.agg #[.slice A0_0 l0_0.length c0_0, .slice A0_1 l0_1.length c0_1], .int .i64 1048576] ?_; (with_reducible refine (laws_szInstance.calls k _ _ l0_0 _ _ l0_1 1048576 t324 _ ?side1 ?side2 ?side3 ?side4 A2.out).mono ?_); (case side1 => exact zc HR0_0.out); (case side2 => exact HC0_0.out); (case side3 => exact zc HR0_1.out); (case side4 => exact HC0_1.out); rintro e w17 ⟨rfl, hb⟩; refine ⟨_, rfl, ?_⟩; replace BK323 := zm (blk_below (zb BK323.out) hb); replace HB := zm (below_step zl hb); (try clear hb); have hcz18_0 : w17.cell? ⟨gb323, 0, none⟩ = some (.slice A0_0 l0_0.length c0_0) := (blk_cell BK323.out 0).trans rfl; have hcz18_1 : w17.cell? ⟨gb323, 1, none⟩ = some (.slice A0_1 l0_1.length c0_1) := (blk_cell BK323.out 1).trans rfl; have hfz18_0 := blk_frozen BK323.out 0; have hfz18_1 := blk_frozen BK323.out 1) | ((with_reducible refine gate_callee (f := 8) rfl ?_); refine zg (some 13) Try.func8 #[.agg #[.slice A0_0 l0_0.length c0_0, .slice A0_1 l0_1.length c0_1]] ?_; (with_reducible refine (laws_toInstance.calls k _ _ l0_0 _ _ l0_1 t325 t328 _ ?side1 ?side2 ?side3 ?side4 A7.out).mono ?_); (case side1 => exact zc HR0_0.out); (case side2 => exact HC0_0.out); (case side3 => exact zc HR0_1.out); (case side4 => exact HC0_1.out); rintro e w19 ⟨v326, v329, rfl, ho0, ho1, hb⟩; refine ⟨_, rfl, ?_⟩; have HO327 := zm (Kd.R_lower ho0 (below_size zl)); have HO330 := zm (Kd.S_lower ho1 (below_size zl)); replace BK323 := zm (blk_below (zb BK323.out) hb); replace HB := zm (below_step zl hb); (try clear hb); (try clear ho0); (try clear ho1); obtain ⟨Ao20, co20, eo20⟩ := Kd.R_slice HO327.out; subst eo20; obtain ⟨Ao21, co21, eo21⟩ := Kd.S_slice HO330.out; subst eo21) | ((with_reducible refine gate_callee (f := 15) rfl ?_); refine zg (some 14) Try.func15 #[.agg #[.slice Ao20 t325.length co20, .slice Ao21 t328.length co21]] ?_; (with_reducible refine (spec_IsValidInstance.calls k _ _ t325 _ _ t328 t331 _ ?side1 ?side2 ?side3 ?side4 A8.out).mono ?_); (case side1 => exact zk HO327.out); (case side2 => exact (Kd.R_reads' HO327.out).2.1); (case side3 => repeat (first | exact (Kd.S_reads' HO330.out).2.2 | (with_reducible refine Kd.C_alloc ?_ _) | (with_reducible refine Kd.C_drewN ?_ _) | (with_reducible refine Kd.C_drew ?_))); (case side4 => exact (Kd.S_reads' HO330.out).2.1); rintro e w22 ⟨rfl, hb⟩; refine ⟨_, rfl, ?_⟩; replace HO327 := zm (Kd.R_below (zr HO327.out) hb); replace HO330 := zm (Kd.S_below (zs HO330.out) hb); replace BK323 := zm (blk_below (zb BK323.out) hb); replace HB := zm (below_step zl hb); (try clear hb); have hcz23_0 : w22.cell? ⟨gb323, 0, none⟩ = some (.slice A0_0 l0_0.length c0_0) := (blk_cell BK323.out 0).trans rfl; have hcz23_1 : w22.cell? ⟨gb323, 1, none⟩ = some (.slice A0_1 l0_1.length c0_1) := (blk_cell BK323.out 1).trans rfl; have hfz23_0 := blk_frozen BK323.out 0; have hfz23_1 := blk_frozen BK323.out 1) | ((with_reducible refine gate_callee (f := 8) rfl ?_); refine zg (some 16) Try.func8 #[.agg #[.slice A0_0 l0_0.length c0_0, .slice A0_1 l0_1.length c0_1]] ?_; (with_reducible refine (laws_toInstance.calls k _ _ l0_0 _ _ l0_1 t332 t335 _ ?side1 ?side2 ?side3 ?side4 A9.out).mono ?_); (case side1 => exact zc HR0_0.out); (case side2 => exact HC0_0.out); (case side3 => exact zc HR0_1.out); (case side4 => exact HC0_1.out); rintro e w24 ⟨v333, v336, rfl, ho0, ho1, hb⟩; refine ⟨_, rfl, ?_⟩; have HO334 := zm (Kd.R_lower (zn ho0 (zr HO327.out)) (below_size zl)); replace HO327 := zm (zo1 (zr HO327.out) hb ho0); have HO337 := zm (Kd.S_lower (Kd.S_new' ho1 (Kd.S_lt (zs HO330.out))) (below_size zl)); replace HO330 := zm (Kd.S_elder' (zs HO330.out) (Kd.S_base ho1) hb); replace BK323 := zm (blk_below (zb BK323.out) hb); replace HB := zm (below_step zl hb); (try clear hb); (try clear ho0); (try clear ho1)) | ((with_reducible refine gate_dst (N := 5) rfl ?_); refine box_event ?hg (N := 5) ?hd (cs := #[.slice none 0 0, .slice none 0 0]) (t := 32) ?hr ?_; (case hd => rfl); (case hg => rfl); (case hr => first | (go_simp; done) | (go_simp; rfl)); intro gb338 hg w25 hbox hb; replace HO327 := zm (Kd.R_below (zr HO327.out) hb); replace HO330 := zm (Kd.S_below (zs HO330.out) hb); replace HO334 := zm (Kd.R_below (zr HO334.out) hb); replace HO337 := zm (Kd.S_below (zs HO337.out) hb); have BK338 := zm (hbox); have GW338 := zm ((by rw [hg]; exact (below_size zl) : w.heap.size ≤ gb338)); have GE338 := zm ((by rw [hg]; exact (below_size zl) : w.heap.size ≤ gb338)); replace HB := zm (below_step zl hb); have NB323_338 := zm (zl1 hg (zb BK323.out)); have NB338_323 := zm (zl2 hg (zb BK323.out)); replace BK323 := zm (blk_below (zb BK323.out) hb); clear hb hbox hg; obtain ⟨Ao26, co26, eo26⟩ := Kd.R_slice HO334.out; subst eo26; have hnb27 := NB338_323.out; have hnc27 := NB323_338.out; have hcz28_0 : w25.cell? ⟨gb338, 0, none⟩ = some (.slice none 0 0) := (blk_cell BK338.out 0).trans rfl; have hcz28_1 : w25.cell? ⟨gb338, 1, none⟩ = some (.slice none 0 0) := (blk_cell BK338.out 1).trans rfl; have hfz28_0 := blk_frozen BK338.out 0; have hfz28_1 := blk_frozen BK338.out 1; obtain ⟨Ao29, co29, eo29⟩ := Kd.S_slice HO337.out; subst eo29) | ((with_reducible refine gate_callee (f := 16) rfl ?_); have zq0 := zf2 HO334.out BK338.out 0 (.slice Ao26 t332.length co26) 1 (.slice Ao29 t335.length co29); refine zg (some 18) Try.func16 #[.agg #[.slice Ao26 t332.length co26, .slice Ao29 t335.length co29]] ?_; (with_reducible refine (impl_IsValidInstance.calls k _ _ t332 _ _ t335 t339 _ ?side1 ?side2 ?side3 ?side4 A10.out).mono ?_); (case side1 => refine (Kd.R_reads' (e := 62) (base := w.heap.size) (ok := fun k_ => (True ∧ zx (.slice Ao20 t325.length co20) k_)) (n := t332.length) (c := co26) ?_).2.2; exact (zr zq0)); (case side2 => exact (Kd.R_reads' HO334.out).2.1); (case side3 => refine (Kd.S_reads' (e := 44) (base := w.heap.size) (ok := fun k_ => (True ∧ zx (.slice Ao21 t328.length co21) k_)) (n := t335.length) (c := co29) ?_).2.2; exact (zs (Kd.S_mono (Kd.S_far (p := ⟨gb338, 1, none⟩) (Kd.S_far (p := ⟨gb338, 0, none⟩) (Kd.S_types HO337.out BK338.out (by decide)) (fun _ hk => hk.2) (.slice Ao26 t332.length co26)) (fun _ hk => hk.2) (.slice Ao29 t335.length co29)) (fun _ h_ => h_.1)))); (case side4 => exact (Kd.S_reads' HO337.out).2.1); rintro e w30 ⟨rfl, hb⟩; refine ⟨_, rfl, ?_⟩; replace HO327 := zm (Kd.R_below (zr (zf2 HO327.out BK338.out 0 (.slice Ao26 t332.length co26) 1 (.slice Ao29 t335.length co29))) hb); replace HO330 := zm (Kd.S_below (zs (Kd.S_mono (Kd.S_far (p := ⟨gb338, 1, none⟩) (Kd.S_far (p := ⟨gb338, 0, none⟩) (Kd.S_types HO330.out BK338.out (by decide)) (fun _ hk => hk.2) (.slice Ao26 t332.length co26)) (fun _ hk => hk.2) (.slice Ao29 t335.length co29)) (fun _ h_ => h_.1))) hb); replace HO334 := zm (Kd.R_below (zr zq0) hb); replace HO337 := zm (Kd.S_below (zs (Kd.S_mono (Kd.S_far (p := ⟨gb338, 1, none⟩) (Kd.S_far (p := ⟨gb338, 0, none⟩) (Kd.S_types HO337.out BK338.out (by decide)) (fun _ hk => hk.2) (.slice Ao26 t332.length co26)) (fun _ hk => hk.2) (.slice Ao29 t335.length co29)) (fun _ h_ => h_.1))) hb); replace BK323 := zm (blk_below (g := gb323) (o := .cells #[.slice A0_0 l0_0.length c0_0, .slice A0_1 l0_1.length c0_1] 25 (0, 0)) zbz hb); replace BK338 := zm (blk_below (g := gb338) (o := .cells #[.slice Ao26 t332.length co26, .slice Ao29 t335.length co29] 32 (0, 0)) (by (with_reducible repeat (first | refine blk_drewN ?_ _ | refine blk_drew ?_ | refine blk_alloc ?_ _)); refine blk_put (cs := #[.slice Ao26 t332.length co26, .slice none 0 0]) ?_ 1 _ rfl; (with_reducible repeat (first | refine blk_drewN ?_ _ | refine blk_drew ?_ | refine blk_alloc ?_ _)); refine blk_put (cs := #[.slice none 0 0, .slice none 0 0]) ?_ 0 _ rfl; (with_reducible repeat (first | refine blk_drewN ?_ _ | refine blk_drew ?_ | refine blk_alloc ?_ _)); exact BK338.out) hb); replace HB := zm (below_step zl hb); (try clear hb)))
    replace HO327 := zm (Kd.R_drew HO327.out)
    replace HO330 := zm (Kd.S_drew HO330.out)
    replace HO334 := zm (Kd.R_drew HO334.out)
    replace HO337 := zm (Kd.S_drew HO337.out)
    replace BK323 := zm (blk_drew BK323.out)
    replace BK338 := zm (blk_drew BK338.out)
    replace HB := zm (below_drew1 HB.out)
    refine start_ (n := 5) (S := fun w' => w'.cell? ⟨gb338, 0, none⟩ = some (.slice Ao26 t332.length co26) ∧ w'.cell? ⟨gb338, 1, none⟩ = some (.slice Ao29 t335.length co29) ∧ w'.cell? ⟨gb323, 0, none⟩ = some (.slice A0_0 l0_0.length c0_0) ∧ w'.cell? ⟨gb323, 1, none⟩ = some (.slice A0_1 l0_1.length c0_1)) (ds := []) #[false, false, false, false, false] (by kernel_rfl) rfl rfl ⟨(blk_cell BK338.out 0).trans rfl, (blk_cell BK338.out 1).trans rfl, (blk_cell BK323.out 0).trans rfl, (blk_cell BK323.out 1).trans rfl⟩ (fun hHeld => ?_)
    generalize w30.drew = w31 at HO327 HO330 HO334 HO337 BK323 BK338 HB hHeld ⊢
    refine take_ (i := 0) (N := some 22) (v := ?_) (a' := ?_) #[true, false, false, false, false] rfl rfl (by kernel_rfl) (fun _ _ _ h => h) (Or.inl ⟨by rfl, ?_⟩) hHeld ?_ ?_
    rotate_left
    ·rintro w' ⟨s0, s1, s2, s3⟩
     go_simp
     with_reducible rfl
    rotate_left
    ·simp only [Act.put, List.setIfInBounds_toArray, List.set_cons_zero, List.set_cons_succ, i64_w, i32_w]
     rfl
    refine take_ (i := 1) (N := some 23) (v := ?_) (a' := ?_) #[true, true, false, false, false] rfl rfl (by kernel_rfl) (fun _ _ _ h => h) (Or.inl ⟨by rfl, ?_⟩) hHeld ?_ ?_
    rotate_left
    ·rintro w' ⟨s0, s1, s2, s3⟩
     go_simp
     with_reducible rfl
    rotate_left
    ·simp only [Act.put, List.setIfInBounds_toArray, List.set_cons_zero, List.set_cons_succ, i64_w, i32_w]
     rfl
    refine one_ (i := 2) (N := some 24) #[true, true, true, false, false] rfl rfl (by kernel_rfl) (by decide) (fun K hK => ?_)
    refine goes_ Try.func8 (by kernel_rfl) rfl #[.agg #[.slice A0_0 l0_0.length c0_0, .slice A0_1 l0_1.length c0_1]] (by rfl) rfl rfl (by (try simp only [List.map_toArray, List.map_cons, List.map_nil]); first | done | rfl | (simp only [List.length_drop, List.length_take]; rfl)) ?_
    with_reducible refine (laws_toInstance.calls k _ _ l0_0 _ _ l0_1 t340 t343 _ ?side1 ?side2 ?side3 ?side4 A12.out).mono ?_
    (case side1 => exact zc HR0_0.out)
    (case side2 => exact HC0_0.out)
    (case side3 => exact zc HR0_1.out)
    (case side4 => exact HC0_1.out)
    rintro e w32 ⟨v341, v344, rfl, ho0, ho1, hb⟩
    refine ⟨_, rfl, ?_⟩
    have HO342 := zm (Kd.R_lower (zn (zn ho0 (zr HO327.out)) (zr HO334.out)) (below_size zl))
    replace HO327 := zm (zo1 (zr HO327.out) hb ho0)
    replace HO334 := zm (zo1 (zr HO334.out) hb ho0)
    have HO345 := zm (Kd.S_lower (Kd.S_new' (Kd.S_new' ho1 (Kd.S_lt (zs HO330.out))) (Kd.S_lt (zs HO337.out))) (below_size zl))
    replace HO330 := zm (Kd.S_elder' (zs HO330.out) (Kd.S_base ho1) hb)
    replace HO337 := zm (Kd.S_elder' (zs HO337.out) (Kd.S_base ho1) hb)
    replace BK323 := zm (blk_below (zb BK323.out) hb)
    replace BK338 := zm (blk_below (zb BK338.out) hb)
    replace HB := zm (below_step zl hb)
    (try clear hb)
    (try clear ho0)
    (try clear ho1)
    obtain ⟨Ao33, co33, eo33⟩ := Kd.R_slice HO342.out
    (first | subst eo33 | (injection eo33 with f1_ f2_ f3_; have f4_ := f1_.symm; have f5_ := f3_.symm; clear f1_ f2_ f3_; subst f4_; subst f5_))
    obtain ⟨Ao34, co34, eo34⟩ := Kd.S_slice HO345.out
    (first | subst eo34 | (injection eo34 with f1_ f2_ f3_; have f4_ := f1_.symm; have f5_ := f3_.symm; clear f1_ f2_ f3_; subst f4_; subst f5_))
    refine hK.out _ _ ⟨(blk_cell BK338.out 0).trans rfl, (blk_cell BK338.out 1).trans rfl, (blk_cell BK323.out 0).trans rfl, (blk_cell BK323.out 1).trans rfl⟩ (fun hHeld => ?_)
    clear hK K
    refine zO (some 24) ?_
    refine one_ (i := 3) (N := some 25) #[true, true, true, true, false] rfl rfl (by kernel_rfl) (by decide) (fun K hK => ?_)
    refine goes_ Try.func11 (by kernel_rfl) rfl #[.agg #[.slice Ao26 t332.length co26, .slice Ao29 t335.length co29], .agg #[.slice Ao33 t340.length co33, .slice Ao34 t343.length co34]] (by rfl) rfl rfl (by (try simp only [List.map_toArray, List.map_cons, List.map_nil]); first | done | rfl | (simp only [List.length_drop, List.length_take]; rfl)) ?_
    with_reducible refine (laws_eqInstance.calls k _ _ t332 _ _ t335 _ _ t340 _ _ t343 true _ ?side1 ?side2 ?side3 ?side4 ?side5 ?side6 ?side7 ?side8 A13.out).mono ?_
    (case side1 => exact zk HO334.out)
    (case side2 => exact (Kd.R_reads' HO334.out).2.1)
    (case side3 => repeat (first | exact (Kd.S_reads' HO337.out).2.2 | (with_reducible refine Kd.C_alloc ?_ _) | (with_reducible refine Kd.C_drewN ?_ _) | (with_reducible refine Kd.C_drew ?_)))
    (case side4 => exact (Kd.S_reads' HO337.out).2.1)
    (case side5 => exact zk HO342.out)
    (case side6 => exact (Kd.R_reads' HO342.out).2.1)
    (case side7 => repeat (first | exact (Kd.S_reads' HO345.out).2.2 | (with_reducible refine Kd.C_alloc ?_ _) | (with_reducible refine Kd.C_drewN ?_ _) | (with_reducible refine Kd.C_drew ?_)))
    (case side8 => exact (Kd.S_reads' HO345.out).2.1)
    rintro e w35 ⟨rfl, hb⟩
    refine ⟨_, rfl, ?_⟩
    replace HO327 := zm (Kd.R_below (zr HO327.out) hb)
    replace HO330 := zm (Kd.S_below (zs HO330.out) hb)
    replace HO334 := zm (Kd.R_below (zr HO334.out) hb)
    replace HO337 := zm (Kd.S_below (zs HO337.out) hb)
    replace HO342 := zm (Kd.R_below (zr HO342.out) hb)
    replace HO345 := zm (Kd.S_below (zs HO345.out) hb)
    replace BK323 := zm (blk_below (zb BK323.out) hb)
    replace BK338 := zm (blk_below (zb BK338.out) hb)
    replace HB := zm (below_step zl hb)
    (try clear hb)
    refine hK.out _ _ ⟨(blk_cell BK338.out 0).trans rfl, (blk_cell BK338.out 1).trans rfl, (blk_cell BK323.out 0).trans rfl, (blk_cell BK323.out 1).trans rfl⟩ (fun hHeld => ?_)
    clear hK K
    refine zO (some 25) ?_
    refine zP 4 (some 26) #[true, true, true, true, true] (by kernel_rfl) ?_
    refine done_ (by kernel_rfl) ?_
    try go_wp2
    go_ret
    exact ⟨by first | rfl | (simp [errW_none, errW_some] <;> rfl) | (simp [*, errW_none, errW_some] <;> rfl), zl⟩
   ·replace c14 := Bool.eq_false_iff.mpr c14
    subst c14
    have H1 : (some false) = some true := by first | with_reducible rfl | (rw [if_neg (show ¬ (false = true) by decide)] at H; exact H)
    clear H
    have H := H1
    clear H1
    exact absurd H (by simp)

end Go.Proofs.Ytjphbdnfbkfgiab.PFnExactIsValidInstance
