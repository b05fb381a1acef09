-- Written by a program of this session: the kit's printer, turned by wip/mkprint.py.
import Derived.Test.YtjphbdnfbkfgiaaPFnExactComposex0
import Derived.Test.YtjphbdnfbkfgiaaPFnExactComposex2
import Derived.Test.YtjphbdnfbkfgiaaPFnExactComposex3
namespace Go.Proofs.Ytjphbdnfbkfgiaa.PFnExactCompose
open Go.RowKit Go.Proofs.YtjphbdnfbkfgiaaW.PrintWords Go.Proofs.YtjphbdnfbkfgiaaW.PrintLast Go.Proofs.YtjphbdnfbkfgiaaW.PrintMore
attribute [local go_sem] max2_int min2_int max_two min_two max_three min_three max_four min_four   -- for this text's walks alone
set_option linter.unusedVariables false
set_option linter.unusedSimpArgs false

/-! ### spec_Compose: function 24 -/
mutual
def spec_Compose.j0 : Nat → Bool → List Int → List Int → List Int → List Int → Option (List Int × List Int × Bool)
 | 0, _, _, _, _, _ => none
 | k + 1, x16, x138000, x138001, x139000, x139001 => if x16 = true then (some (([] : List Int), ([] : List Int), false)) else (spec_Compose.l0 k 0 x138000 x138001 x139000 x139001 ([] : List Int) ([] : List Int))
def spec_Compose.l0 : Nat → Int → List Int → List Int → List Int → List Int → List Int → List Int → Option (List Int × List Int × Bool)
 | 0, _, _, _, _, _, _, _ => none
 | k + 1, x7, x138000, x138001, x139000, x139001, x141000, x141001 => if x7 < 40 then ((spec_l4Has.f k x138000 x7).bind fun t143 => (if t143 = true then (spec_Compose.j2 k x7 true x138000 x138001 x139000 x139001 x141000 x141001) else ((spec_l4Has.f k x139000 x7).bind fun t144 => (spec_Compose.j2 k x7 t144 x138000 x138001 x139000 x139001 x141000 x141001)))) else (some (x141000, x141001, true))
def spec_Compose.j2 : Nat → Int → Bool → List Int → List Int → List Int → List Int → List Int → List Int → Option (List Int × List Int × Bool)
 | 0, _, _, _, _, _, _, _, _ => none
 | k + 1, x7, x31, x138000, x138001, x139000, x139001, x141000, x141001 => if x31 = true then (if x141000.length < 17592186044416 then ((spec_NullValue.f x7).bind fun t148 => ((spec_ApplyToValue.f k x138000 x138001 t148).bind fun t149 => ((spec_ApplyToValue.f k x139000 x139001 t149).bind fun t150 => (if x141001.length < 17592186044416 then (spec_Compose.l0 k (wrap64 (x7 + 1)) x138000 x138001 x139000 x139001 (x141000 ++ [x7]) (x141001 ++ [t150])) else (none))))) else (none)) else (spec_Compose.l0 k (wrap64 (x7 + 1)) x138000 x138001 x139000 x139001 x141000 x141001)
end
def spec_Compose.f (k : Nat) (l0_0 : List Int) (l0_1 : List Int) (l1_0 : List Int) (l1_1 : List Int) : Option (List Int × List Int × Bool) := (spec_IsValidSubstitution.f k l0_0 l0_1).bind fun t141 => (if t141 = true then ((spec_IsValidSubstitution.f k l1_0 l1_1).bind fun t142 => (spec_Compose.j0 k (!t142) l0_0 l0_1 l1_0 l1_1)) else (spec_Compose.j0 k true l0_0 l0_1 l1_0 l1_1))
theorem spec_Compose.mono_l : ∀ k, (∀ y0 y1 y2 y3 y4, LeO (spec_Compose.j0 k y0 y1 y2 y3 y4) (spec_Compose.j0 (k + 1) y0 y1 y2 y3 y4)) ∧ (∀ y0 y1 y2 y3 y4 y5 y6, LeO (spec_Compose.l0 k y0 y1 y2 y3 y4 y5 y6) (spec_Compose.l0 (k + 1) y0 y1 y2 y3 y4 y5 y6)) ∧ (∀ y0 y1 y2 y3 y4 y5 y6 y7, LeO (spec_Compose.j2 k y0 y1 y2 y3 y4 y5 y6 y7) (spec_Compose.j2 (k + 1) y0 y1 y2 y3 y4 y5 y6 y7))
 | 0 => ⟨fun _ _ _ _ _ r h => by simp [spec_Compose.j0] at h, fun _ _ _ _ _ _ _ r h => by simp [spec_Compose.l0] at h, fun _ _ _ _ _ _ _ _ r h => by simp [spec_Compose.j2] at h⟩
 | k + 1 => by
  obtain ⟨ih0, ih1, ih2⟩ := spec_Compose.mono_l k
  refine ⟨?_, ?_, ?_⟩
  ·intro y0 y1 y2 y3 y4
   unfold spec_Compose.j0
   repeat' first
   | (with_reducible exact ih0 _ _ _ _ _)
   | (with_reducible exact ih1 _ _ _ _ _ _ _)
   | (with_reducible exact ih2 _ _ _ _ _ _ _ _)
   | (with_reducible exact spec_ApplyToValue.mono _ _ _ _)
   | (with_reducible exact spec_IsValidSubstitution.mono _ _ _)
   | (with_reducible exact spec_l4Has.mono _ _ _)
   | (with_reducible exact LeO.refl _)
   | (with_reducible exact LeO.none _)
   | (with_reducible refine LeO.ite ?_ ?_)
   | (with_reducible refine LeO.bind ?_ (fun _ => ?_))
   | exact ih0 _ _ _ _ _
   | exact ih1 _ _ _ _ _ _ _
   | exact ih2 _ _ _ _ _ _ _ _
   | exact spec_ApplyToValue.mono _ _ _ _
   | exact spec_IsValidSubstitution.mono _ _ _
   | exact spec_l4Has.mono _ _ _
   | exact LeO.none _
   | refine LeO.ite ?_ ?_
   | refine LeO.bind ?_ (fun _ => ?_)
  ·intro y0 y1 y2 y3 y4 y5 y6
   unfold spec_Compose.l0
   repeat' first
   | (with_reducible exact ih0 _ _ _ _ _)
   | (with_reducible exact ih1 _ _ _ _ _ _ _)
   | (with_reducible exact ih2 _ _ _ _ _ _ _ _)
   | (with_reducible exact spec_ApplyToValue.mono _ _ _ _)
   | (with_reducible exact spec_IsValidSubstitution.mono _ _ _)
   | (with_reducible exact spec_l4Has.mono _ _ _)
   | (with_reducible exact LeO.refl _)
   | (with_reducible exact LeO.none _)
   | (with_reducible refine LeO.ite ?_ ?_)
   | (with_reducible refine LeO.bind ?_ (fun _ => ?_))
   | exact ih0 _ _ _ _ _
   | exact ih1 _ _ _ _ _ _ _
   | exact ih2 _ _ _ _ _ _ _ _
   | exact spec_ApplyToValue.mono _ _ _ _
   | exact spec_IsValidSubstitution.mono _ _ _
   | exact spec_l4Has.mono _ _ _
   | exact LeO.none _
   | refine LeO.ite ?_ ?_
   | refine LeO.bind ?_ (fun _ => ?_)
  ·intro y0 y1 y2 y3 y4 y5 y6 y7
   unfold spec_Compose.j2
   repeat' first
   | (with_reducible exact ih0 _ _ _ _ _)
   | (with_reducible exact ih1 _ _ _ _ _ _ _)
   | (with_reducible exact ih2 _ _ _ _ _ _ _ _)
   | (with_reducible exact spec_ApplyToValue.mono _ _ _ _)
   | (with_reducible exact spec_IsValidSubstitution.mono _ _ _)
   | (with_reducible exact spec_l4Has.mono _ _ _)
   | (with_reducible exact LeO.refl _)
   | (with_reducible exact LeO.none _)
   | (with_reducible refine LeO.ite ?_ ?_)
   | (with_reducible refine LeO.bind ?_ (fun _ => ?_))
   | exact ih0 _ _ _ _ _
   | exact ih1 _ _ _ _ _ _ _
   | exact ih2 _ _ _ _ _ _ _ _
   | exact spec_ApplyToValue.mono _ _ _ _
   | exact spec_IsValidSubstitution.mono _ _ _
   | exact spec_l4Has.mono _ _ _
   | exact LeO.none _
   | refine LeO.ite ?_ ?_
   | refine LeO.bind ?_ (fun _ => ?_)
theorem spec_Compose.mono : ∀ a0 a1 a2 a3 k, LeO (spec_Compose.f k a0 a1 a2 a3) (spec_Compose.f (k + 1) a0 a1 a2 a3) := by
 intro a0 a1 a2 a3 k
 obtain ⟨ih0, ih1, ih2⟩ := spec_Compose.mono_l k
 unfold spec_Compose.f
 repeat' first
   | (with_reducible exact ih0 _ _ _ _ _)
   | (with_reducible exact ih1 _ _ _ _ _ _ _)
   | (with_reducible exact ih2 _ _ _ _ _ _ _ _)
   | (with_reducible exact spec_ApplyToValue.mono _ _ _ _)
   | (with_reducible exact spec_IsValidSubstitution.mono _ _ _)
   | (with_reducible exact spec_l4Has.mono _ _ _)
   | (with_reducible exact LeO.refl _)
   | (with_reducible exact LeO.none _)
   | (with_reducible refine LeO.ite ?_ ?_)
   | (with_reducible refine LeO.bind ?_ (fun _ => ?_))
   | exact ih0 _ _ _ _ _
   | exact ih1 _ _ _ _ _ _ _
   | exact ih2 _ _ _ _ _ _ _ _
   | exact spec_ApplyToValue.mono _ _ _ _
   | exact spec_IsValidSubstitution.mono _ _ _
   | exact spec_l4Has.mono _ _ _
   | exact LeO.none _
   | refine LeO.ite ?_ ?_
   | refine LeO.bind ?_ (fun _ => ?_)
def spec_Compose.T9 : Bool × List (List Nat × List Nat) := (true, [([], []), ([0], [0]), ([], []), ([], []), ([], []), ([4], [4]), ([3, 5, 5], [3, 5]), ([2, 6, 6], [2, 6]), ([7], [7]), ([1, 8, 7], [1, 8]), ([0, 1, 2, 3, 4, 5, 6, 7, 8, 9], []), ([10, 9, 9, 0, 1, 2, 3, 4, 5, 6, 7, 8, 9], [9, 10])])
def spec_Compose.B9 : List Nat := [0, 1, 0, 0, 0, 16, 56, 124, 252, 511, 1023, 2047]
theorem spec_Compose.tab9 : rtab .any (opsOf Try.f24 9) = spec_Compose.T9 := by kernel_rfl
theorem spec_Compose.bits9 : waitsOk spec_Compose.T9.2 spec_Compose.B9 = true := by kernel_rfl
set_option maxHeartbeats 8000000 in
set_option maxRecDepth 100000 in
theorem spec_Compose.calls (k : Nat) (A0_0 : Option Addr) (c0_0 : Nat) (l0_0 : List Int) (A0_1 : Option Addr) (c0_1 : Nat) (l0_1 : List Int) (A1_0 : Option Addr) (c1_0 : Nat) (l1_0 : List Int) (A1_1 : Option Addr) (c1_1 : Nat) (l1_1 : List Int) (r1 : List Int) (r2 : List Int) (r3 : Bool) (w : World) (hr0_0 : Kd.C (Kd.int .i64) w A0_0 l0_0.length l0_0) (hc0_0 : l0_0.length ≤ c0_0) (hr0_1 : Kd.C (Kd.int .i64) w A0_1 l0_1.length l0_1) (hc0_1 : l0_1.length ≤ c0_1) (hr1_0 : Kd.C (Kd.int .i64) w A1_0 l1_0.length l1_0) (hc1_0 : l1_0.length ≤ c1_0) (hr1_1 : Kd.C (Kd.int .i64) w A1_1 l1_1.length l1_1) (hc1_1 : l1_1.length ≤ c1_1) (h : spec_Compose.f k l0_0 l0_1 l1_0 l1_1 = some (r1, r2, r3)) :
  Calls Try.prog 24 #[.agg #[.slice A0_0 l0_0.length c0_0, .slice A0_1 l0_1.length c0_1], .agg #[.slice A1_0 l1_0.length c1_0, .slice A1_1 l1_1.length c1_1]] w fun e w' => ∃ v0_ v1_ : Value, e = .returned (.tuple #[.agg #[v0_, v1_], .bool r3]) ∧ Kd.R (Kd.int .i64) 3 w' w.heap.size (fun k_ => zx v1_ k_) v0_ r1 ∧ Kd.R (Kd.int .i64) 3 w' w.heap.size (fun k_ => zx v0_ k_) v1_ r2 ∧ Below w.heap.size w w' := by
 have hu49 := Try.underlying49
 have HR0_0 := Aside0.mk hr0_0
 have HC0_0 := Aside0.mk hc0_0
 clear hr0_0 hc0_0
 have HR0_1 := Aside0.mk hr0_1
 have HC0_1 := Aside0.mk hc0_1
 clear hr0_1 hc0_1
 have HR1_0 := Aside0.mk hr1_0
 have HC1_0 := Aside0.mk hc1_0
 clear hr1_0 hc1_0
 have HR1_1 := Aside0.mk hr1_1
 have HC1_1 := Aside0.mk hc1_1
 clear hr1_1 hc1_1
 have HB := Aside0.mk (Below.refl w.heap.size w)
 have H : ((spec_IsValidSubstitution.f k l0_0 l0_1).bind fun t141 => (if t141 = true then ((spec_IsValidSubstitution.f k l1_0 l1_1).bind fun t142 => (spec_Compose.j0 k (!t142) l0_0 l0_1 l1_0 l1_1)) else (spec_Compose.j0 k true l0_0 l0_1 l1_0 l1_1))) = some (r1, r2, r3) := h
 clear h
 have HC3 := Aside0.mk H
 clear H
 go_enter Try.func24, Try.ntmps24
 go_upto_region 2 with (first | ((with_reducible refine gate_dst (N := 2) rfl ?_); refine box_event ?hg (N := 2) ?hd (cs := #[.slice A0_0 l0_0.length c0_0, .slice A0_1 l0_1.length c0_1]) (t := 49) ?hr ?_; (case hd => rfl); (case hg => rfl); (case hr => first | (go_simp; done) | (go_simp; rfl)); intro gb137 hg w4 hbox hb; have BK137 := zm (hbox); have GW137 := zm ((by rw [hg]; exact (below_size zl) : w.heap.size ≤ gb137)); have GE137 := GW137; replace HB := zm (below_step zl hb); clear hb hbox hg) | ((with_reducible refine gate_dst (N := 3) rfl ?_); refine box_event ?hg (N := 3) ?hd (cs := #[.slice A1_0 l1_0.length c1_0, .slice A1_1 l1_1.length c1_1]) (t := 49) ?hr ?_; (case hd => rfl); (case hg => rfl); (case hr => first | (go_simp; done) | (go_simp; rfl)); intro gb138 hg w5 hbox hb; have BK138 := zm (hbox); have GW138 := zm ((by rw [hg]; exact (below_size zl) : w.heap.size ≤ gb138)); have GE138 := GW138; replace HB := zm (below_step zl hb); have NB137_138 := zm (zl1 hg (zb BK137.out)); have NB138_137 := zm (zl2 hg (zb BK137.out)); replace BK137 := zbk BK137 hb; clear hb hbox hg) | ((with_reducible refine gate_dst (N := 4) rfl ?_); refine box_event ?hg (N := 4) ?hd (cs := #[.slice none 0 0, .slice none 0 0]) (t := 49) ?hr ?_; (case hd => rfl); (case hg => rfl); (case hr => first | (go_simp; done) | (go_simp; rfl)); intro gb139 hg w6 hbox hb; have BK139 := zm (hbox); have GW139 := zm ((by rw [hg]; exact (below_size zl) : w.heap.size ≤ gb139)); have GE139 := GW139; replace HB := zm (below_step zl hb); have NB137_139 := zm (zl1 hg (zb BK137.out)); have NB139_137 := zm (zl2 hg (zb BK137.out)); replace BK137 := zbk BK137 hb; have NB138_139 := zm (zl1 hg (zb BK138.out)); have NB139_138 := zm (zl2 hg (zb BK138.out)); replace BK138 := zbk BK138 hb; clear hb hbox hg) | ((with_reducible refine gate_dst (N := 6) rfl ?_); refine box_event ?hg (N := 6) ?hd (cs := #[.slice none 0 0, .slice none 0 0]) (t := 49) ?hr ?_; (case hd => rfl); (case hg => rfl); (case hr => first | (go_simp; done) | (go_simp; rfl)); intro gb140 hg w7 hbox hb; have BK140 := zm (hbox); have GW140 := zm ((by rw [hg]; exact (below_size zl) : w.heap.size ≤ gb140)); have GE140 := GW140; replace HB := zm (below_step zl hb); have NB137_140 := zm (zl1 hg (zb BK137.out)); have NB140_137 := zm (zl2 hg (zb BK137.out)); replace BK137 := zbk BK137 hb; have NB138_140 := zm (zl1 hg (zb BK138.out)); have NB140_138 := zm (zl2 hg (zb BK138.out)); replace BK138 := zbk BK138 hb; have NB139_140 := zm (zl1 hg (zb BK139.out)); have NB140_139 := zm (zl2 hg (zb BK139.out)); replace BK139 := zbk BK139 hb; clear hb hbox hg; have hnb8 := NB140_137.out; have hnc8 := NB137_140.out; have hnb9 := NB140_138.out; have hnc9 := NB138_140.out; have hnb10 := NB140_139.out; have hnc10 := NB139_140.out; have hcz11_0 : w7.cell? ⟨gb140, 0, none⟩ = some (.slice none 0 0) := zcl BK140.out 0; have hcz11_1 : w7.cell? ⟨gb140, 1, none⟩ = some (.slice none 0 0) := zcl BK140.out 1; have hfz11_0 := blk_frozen BK140.out 0; have hfz11_1 := blk_frozen BK140.out 1))
 (try simp only [Act.put, List.setIfInBounds_toArray, List.set_cons_zero, List.set_cons_succ])
 go_cut [16] (fun v16 wc => ∃ (kq : Nat) (x16_2 : Bool), v16 = .bool x16_2 ∧ Aside0 (spec_Compose.j0 kq x16_2 l0_0 l0_1 l1_0 l1_1 = some (r1, r2, r3)) ∧ Aside0 (kq ≤ k) ∧ Aside0 (wc.heap[gb137]? = some (.cells #[(.slice A0_0 l0_0.length c0_0), (.slice A0_1 l0_1.length c0_1)] 49 (0, 0))) ∧ Aside0 (wc.heap[gb138]? = some (.cells #[(.slice A1_0 l1_0.length c1_0), (.slice A1_1 l1_1.length c1_1)] 49 (0, 0))) ∧ Aside0 (wc.heap[gb139]? = some (.cells #[(.slice none 0 0), (.slice none 0 0)] 49 (0, 0))) ∧ Aside0 (wc.heap[gb140]? = some (.cells #[(.slice none 0 0), (.slice none 0 0)] 49 (0, 0))) ∧ Aside0 (Below w.heap.size w wc))
 case first =>
  have H := HC3.out
  clear HC3
  replace H := Option.bind_eq_some_iff.mp H
  obtain ⟨t141, A120, H⟩ := H
  replace H : (if t141 = true then ((spec_IsValidSubstitution.f k l1_0 l1_1).bind fun t142 => (spec_Compose.j0 k (!t142) l0_0 l0_1 l1_0 l1_1)) else (spec_Compose.j0 k true l0_0 l0_1 l1_0 l1_1)) = some (r1, r2, r3) := H
  have A12 := Aside0.mk A120
  clear A120
  by_cases c13 : t141 = true
  ·subst c13
   have H1 : ((spec_IsValidSubstitution.f k l1_0 l1_1).bind fun t142 => (spec_Compose.j0 k (!t142) l0_0 l0_1 l1_0 l1_1)) = some (r1, r2, r3) := by first | with_reducible rfl | (rw [if_pos rfl] at H; exact H)
   clear H
   have H := H1
   clear H1
   replace H := Option.bind_eq_some_iff.mp H
   obtain ⟨t142, A140, H⟩ := H
   replace H : (spec_Compose.j0 k (!t142) l0_0 l0_1 l1_0 l1_1) = some (r1, r2, r3) := H
   have A14 := Aside0.mk A140
   clear A140
   have H' := Aside0.mk H
   clear H
   have hnb15 := NB137_138.out
   have hnc15 := NB138_137.out
   have hnb16 := NB137_139.out
   have hnc16 := NB139_137.out
   have hnb17 := NB137_140.out
   have hnc17 := NB140_137.out
   have hcz18_0 : w7.cell? ⟨gb137, 0, none⟩ = some (.slice A0_0 l0_0.length c0_0) := zcl BK137.out 0
   have hcz18_1 : w7.cell? ⟨gb137, 1, none⟩ = some (.slice A0_1 l0_1.length c0_1) := zcl BK137.out 1
   have hfz18_0 := blk_frozen BK137.out 0
   have hfz18_1 := blk_frozen BK137.out 1
   go_wp2_with (first | ((with_reducible refine gate_callee (f := 50) rfl ?_); refine zg (some 10) Try.func50 #[.agg #[.slice A0_0 l0_0.length c0_0, .slice A0_1 l0_1.length c0_1]] ?_; (with_reducible refine (spec_IsValidSubstitution.calls k _ _ l0_0 _ _ l0_1 true _ ?side1 ?side2 ?side3 ?side4 A12.out).mono ?_); (case side1 => exact Kd.C_below HR0_0.out zl); (case side2 => exact HC0_0.out); (case side3 => exact Kd.C_below HR0_1.out zl); (case side4 => exact HC0_1.out); rintro e w19 ⟨rfl, hb⟩; refine ⟨_, rfl, ?_⟩; replace BK137 := zm (blk_below (g := gb137) (o := .cells #[.slice A0_0 l0_0.length c0_0, .slice A0_1 l0_1.length c0_1] 49 (0, 0)) zbz hb); replace BK138 := zm (blk_below (g := gb138) (o := .cells #[.slice A1_0 l1_0.length c1_0, .slice A1_1 l1_1.length c1_1] 49 (0, 0)) zbz hb); replace BK139 := zm (blk_below (g := gb139) (o := .cells #[.slice none 0 0, .slice none 0 0] 49 (0, 0)) zbz hb); replace BK140 := zm (blk_below (g := gb140) (o := .cells #[.slice none 0 0, .slice none 0 0] 49 (0, 0)) (by (with_reducible repeat (first | refine blk_drewN ?_ _ | refine blk_drew ?_ | refine blk_alloc ?_ _)); refine blk_put (cs := #[.slice none 0 0, .slice none 0 0]) ?_ 1 _ rfl; (with_reducible repeat (first | refine blk_drewN ?_ _ | refine blk_drew ?_ | refine blk_alloc ?_ _)); refine blk_put (cs := #[.slice none 0 0, .slice none 0 0]) ?_ 0 _ rfl; (with_reducible repeat (first | refine blk_drewN ?_ _ | refine blk_drew ?_ | refine blk_alloc ?_ _)); exact BK140.out) hb); replace HB := zm (below_step zl hb); (try clear hb); have hnb20 := NB138_139.out; have hnc20 := NB139_138.out; have hnb21 := NB138_140.out; have hnc21 := NB140_138.out; have hcz22_0 : w19.cell? ⟨gb138, 0, none⟩ = some (.slice A1_0 l1_0.length c1_0) := zcl BK138.out 0; have hcz22_1 : w19.cell? ⟨gb138, 1, none⟩ = some (.slice A1_1 l1_1.length c1_1) := zcl BK138.out 1; have hfz22_0 := blk_frozen BK138.out 0; have hfz22_1 := blk_frozen BK138.out 1) | (go_at_call 50; (with_reducible refine (spec_IsValidSubstitution.calls k _ _ l1_0 _ _ l1_1 t142 _ ?side1 ?side2 ?side3 ?side4 A14.out).mono ?_); (case side1 => exact zc HR1_0.out); (case side2 => exact HC1_0.out); (case side3 => exact zc HR1_1.out); (case side4 => exact HC1_1.out); rintro e w23 ⟨rfl, hb⟩; have n0_ := Aside0.mk (blk_below (zb BK137.out) hb); have n1_ := Aside0.mk (blk_below (zb BK138.out) hb); have n2_ := Aside0.mk (blk_below (zb BK139.out) hb); have n3_ := Aside0.mk (blk_below (zb BK140.out) hb); have n4_ := Aside0.mk (below_step zl hb); clear BK137; clear BK138; clear BK139; clear BK140; clear HB; have BK137 := n0_; have BK138 := n1_; have BK139 := n2_; have BK140 := n3_; have HB := n4_; clear n0_ n1_ n2_ n3_ n4_; (try clear hb)))
   go_meet
   case rel => exact ⟨_, (!t142), (by first | rfl | (simp; done) | (simp [*]; done)), H', ⟨by first | omega | exact Nat.le_refl _⟩, ⟨zb BK137.out⟩, ⟨zb BK138.out⟩, ⟨zb BK139.out⟩, ⟨zb BK140.out⟩, ⟨zl⟩⟩
  ·replace c13 := Bool.eq_false_iff.mpr c13
   subst c13
   have H1 : (spec_Compose.j0 k true l0_0 l0_1 l1_0 l1_1) = some (r1, r2, r3) := by first | with_reducible rfl | (rw [if_neg (show ¬ (false = true) by decide)] at H; exact H)
   clear H
   have H := H1
   clear H1
   have H' := Aside0.mk H
   clear H
   have hnb24 := NB137_138.out
   have hnc24 := NB138_137.out
   have hnb25 := NB137_139.out
   have hnc25 := NB139_137.out
   have hnb26 := NB137_140.out
   have hnc26 := NB140_137.out
   have hcz27_0 : w7.cell? ⟨gb137, 0, none⟩ = some (.slice A0_0 l0_0.length c0_0) := zcl BK137.out 0
   have hcz27_1 : w7.cell? ⟨gb137, 1, none⟩ = some (.slice A0_1 l0_1.length c0_1) := zcl BK137.out 1
   have hfz27_0 := blk_frozen BK137.out 0
   have hfz27_1 := blk_frozen BK137.out 1
   go_wp2_with (first | ((with_reducible refine gate_callee (f := 50) rfl ?_); refine zg (some 10) Try.func50 #[.agg #[.slice A0_0 l0_0.length c0_0, .slice A0_1 l0_1.length c0_1]] ?_; (with_reducible refine (spec_IsValidSubstitution.calls k _ _ l0_0 _ _ l0_1 false _ ?side1 ?side2 ?side3 ?side4 A12.out).mono ?_); (case side1 => exact Kd.C_below HR0_0.out zl); (case side2 => exact HC0_0.out); (case side3 => exact Kd.C_below HR0_1.out zl); (case side4 => exact HC0_1.out); rintro e w28 ⟨rfl, hb⟩; refine ⟨_, rfl, ?_⟩; replace BK137 := zm (blk_below (g := gb137) (o := .cells #[.slice A0_0 l0_0.length c0_0, .slice A0_1 l0_1.length c0_1] 49 (0, 0)) zbz hb); replace BK138 := zm (blk_below (g := gb138) (o := .cells #[.slice A1_0 l1_0.length c1_0, .slice A1_1 l1_1.length c1_1] 49 (0, 0)) zbz hb); replace BK139 := zm (blk_below (g := gb139) (o := .cells #[.slice none 0 0, .slice none 0 0] 49 (0, 0)) zbz hb); replace BK140 := zm (blk_below (g := gb140) (o := .cells #[.slice none 0 0, .slice none 0 0] 49 (0, 0)) (by (with_reducible repeat (first | refine blk_drewN ?_ _ | refine blk_drew ?_ | refine blk_alloc ?_ _)); refine blk_put (cs := #[.slice none 0 0, .slice none 0 0]) ?_ 1 _ rfl; (with_reducible repeat (first | refine blk_drewN ?_ _ | refine blk_drew ?_ | refine blk_alloc ?_ _)); refine blk_put (cs := #[.slice none 0 0, .slice none 0 0]) ?_ 0 _ rfl; (with_reducible repeat (first | refine blk_drewN ?_ _ | refine blk_drew ?_ | refine blk_alloc ?_ _)); exact BK140.out) hb); replace HB := zm (below_step zl hb); (try clear hb)))
   go_meet
   case rel => exact ⟨_, (true), (by first | rfl | (simp; done) | (simp [*]; done)), H', ⟨by first | omega | exact Nat.le_refl _⟩, ⟨zb BK137.out⟩, ⟨zb BK138.out⟩, ⟨zb BK139.out⟩, ⟨zb BK140.out⟩, ⟨zl⟩⟩
 case rest =>
  clear HC3
  try clear c1
  try clear c2
  try clear p2
  try clear c5
  try clear c8
  try clear c9
  try clear c10
  try clear c13
  try clear c15
  try clear c16
  try clear c17
  try clear c20
  try clear c21
  try clear c24
  try clear c25
  try clear c26
  try clear hcz11_0
  try clear hcz11_1
  try clear hcz18_0
  try clear hcz18_1
  try clear hcz22_0
  try clear hcz22_1
  try clear hcz27_0
  try clear hcz27_1
  try clear hfz11_0
  try clear hfz11_1
  try clear hfz18_0
  try clear hfz18_1
  try clear hfz22_0
  try clear hfz22_1
  try clear hfz27_0
  try clear hfz27_1
  obtain ⟨kq, x16_2, rfl, HA, HJ2, BK137, BK138, BK139, BK140, HB⟩ := hcut
  cases kq with
  | zero => exact absurd HA.out (by simp [spec_Compose.j0])
  | succ kj2 =>
   have H := HA.out
   clear HA
   simp only [spec_Compose.j0] at H
   by_cases c29 : x16_2 = true
   ·subst c29
    have H1 : (some (([] : List Int), ([] : List Int), false)) = some (r1, r2, r3) := by first | with_reducible rfl | (rw [if_pos rfl] at H; exact H)
    clear H
    have H := H1
    clear H1
    simp only [Option.some.injEq, Prod.mk.injEq] at H
    obtain ⟨rfl, rfl, rfl⟩ := H
    have hnb30 := NB140_137.out
    have hnc30 := NB137_140.out
    have hnb31 := NB140_138.out
    have hnc31 := NB138_140.out
    have hnb32 := NB140_139.out
    have hnc32 := NB139_140.out
    have hcz33_0 : wc.cell? ⟨gb140, 0, none⟩ = some (.slice none 0 0) := zcl BK140.out 0
    have hcz33_1 : wc.cell? ⟨gb140, 1, none⟩ = some (.slice none 0 0) := zcl BK140.out 1
    have hfz33_0 := blk_frozen BK140.out 0
    have hfz33_1 := blk_frozen BK140.out 1
    have hnb34 := NB139_137.out
    have hnc34 := NB137_139.out
    have hnb35 := NB139_138.out
    have hnc35 := NB138_139.out
    have hcz36_0 : wc.cell? ⟨gb139, 0, none⟩ = some (.slice none 0 0) := zcl BK139.out 0
    have hcz36_1 : wc.cell? ⟨gb139, 1, none⟩ = some (.slice none 0 0) := zcl BK139.out 1
    have hfz36_0 := blk_frozen BK139.out 0
    have hfz36_1 := blk_frozen BK139.out 1
    go_wp2
    refine bodyPost_ret (results_ct rfl _ _ gb139 49 #[.slice none 0 0, .slice none 0 0] (0, 0) _ rfl (by (with_reducible repeat (first | refine blk_drewN ?_ _ | refine blk_drew ?_ | refine blk_alloc ?_ _)); refine blk_put (cs := #[.slice none 0 0, .slice none 0 0]) ?_ 1 _ rfl; (with_reducible repeat (first | refine blk_drewN ?_ _ | refine blk_drew ?_ | refine blk_alloc ?_ _)); refine blk_put (cs := #[.slice none 0 0, .slice none 0 0]) ?_ 0 _ rfl; (with_reducible repeat (first | refine blk_drewN ?_ _ | refine blk_drew ?_ | refine blk_alloc ?_ _)); exact BK139.out) Try.underlying49 rfl (by kernel_rfl)) rfl ?_
    exact ⟨_, _, by first | rfl | (simp [errW_none, errW_some] <;> rfl) | (simp [*, errW_none, errW_some] <;> rfl), by first | exact Kd.R_nil _ _ _ _ _ | exact Kd.N_nil _ _ _ _ _ | exact Kd.V_nil _ _ _ _ _ | exact Kd.Q_nil _ _ _ _ _ | exact Kd.S_nil _ _ _ _ _, by first | exact Kd.R_nil _ _ _ _ _ | exact Kd.N_nil _ _ _ _ _ | exact Kd.V_nil _ _ _ _ _ | exact Kd.Q_nil _ _ _ _ _ | exact Kd.S_nil _ _ _ _ _, zl⟩
   ·replace c29 := Bool.eq_false_iff.mpr c29
    subst c29
    have H1 : (spec_Compose.l0 kj2 0 l0_0 l0_1 l1_0 l1_1 ([] : List Int) ([] : List Int)) = some (r1, r2, r3) := by first | with_reducible rfl | (rw [if_neg (show ¬ (false = true) by decide)] at H; exact H)
    clear H
    have H := H1
    clear H1
    have H' := Aside0.mk H
    clear H
    go_wp2
    go_loopg [7] kj2 (fun kq v7 w' => ∃ (x7_2 : Int) (x141000_2 : List Int) (x141001_2 : List Int) (u141000 : Value) (u141001 : Value), v7 = .int .i64 x7_2 ∧ Aside0 (spec_Compose.l0 kq x7_2 l0_0 l0_1 l1_0 l1_1 x141000_2 x141001_2 = some (r1, r2, r3)) ∧ Aside0 (kq ≤ kj2) ∧ Aside0 (Kd.R (Kd.int .i64) 3 w' w.heap.size (fun k_ => zx u141001 k_) u141000 x141000_2) ∧ Aside0 (Kd.R (Kd.int .i64) 3 w' w.heap.size (fun k_ => zx u141000 k_) u141001 x141001_2) ∧ Aside0 (w'.heap[gb137]? = some (.cells #[(.slice A0_0 l0_0.length c0_0), (.slice A0_1 l0_1.length c0_1)] 49 (0, 0))) ∧ Aside0 (w'.heap[gb138]? = some (.cells #[(.slice A1_0 l1_0.length c1_0), (.slice A1_1 l1_1.length c1_1)] 49 (0, 0))) ∧ Aside0 (w'.heap[gb139]? = some (.cells #[(.slice none 0 0), (.slice none 0 0)] 49 (0, 0))) ∧ Aside0 (w'.heap[gb140]? = some (.cells #[u141000, u141001] 49 (0, 0))) ∧ Aside0 (Below w.heap.size w w'))
    case atStart => exact ⟨(0), (([] : List Int)), (([] : List Int)), (.slice none 0 0), (.slice none 0 0), (by first | rfl | (simp; done) | (simp [*]; done)), H', ⟨Nat.le_refl _⟩, ⟨by first | exact Kd.R_nil _ _ _ _ _ | exact Kd.N_nil _ _ _ _ _ | exact Kd.V_nil _ _ _ _ _ | exact Kd.Q_nil _ _ _ _ _ | exact Kd.S_nil _ _ _ _ _⟩, ⟨by first | exact Kd.R_nil _ _ _ _ _ | exact Kd.N_nil _ _ _ _ _ | exact Kd.V_nil _ _ _ _ _ | exact Kd.Q_nil _ _ _ _ _ | exact Kd.S_nil _ _ _ _ _⟩, ⟨zb BK137.out⟩, ⟨zb BK138.out⟩, ⟨zb BK139.out⟩, ⟨zb BK140.out⟩, ⟨zl⟩⟩
    case round =>
     clear H'
     try clear c1
     try clear c2
     try clear p2
     try clear c3
     try clear c5
     try clear c8
     try clear c9
     try clear c10
     try clear c13
     try clear c15
     try clear c16
     try clear c17
     try clear c20
     try clear c21
     try clear c24
     try clear c25
     try clear c26
     try clear c29
     try clear c30
     try clear c31
     try clear c32
     try clear c34
     try clear c35
     try clear hcz11_0
     try clear hcz11_1
     try clear hcz18_0
     try clear hcz18_1
     try clear hcz22_0
     try clear hcz22_1
     try clear hcz27_0
     try clear hcz27_1
     try clear hcz33_0
     try clear hcz33_1
     try clear hcz36_0
     try clear hcz36_1
     try clear hfz11_0
     try clear hfz11_1
     try clear hfz18_0
     try clear hfz18_1
     try clear hfz22_0
     try clear hfz22_1
     try clear hfz27_0
     try clear hfz27_1
     try clear hfz33_0
     try clear hfz33_1
     try clear hfz36_0
     try clear hfz36_1
     try clear p2
     obtain ⟨x7_2, x141000_2, x141001_2, u141000, u141001, rfl, HA, HK2, HO_141000, HO_141001, BK137, BK138, BK139, BK140, HB⟩ := hrel
     cases gk with
     | zero => exact absurd HA.out (by simp [spec_Compose.l0])
     | succ k2 =>
      have H := HA.out
      clear HA
      simp only [spec_Compose.l0] at H
      by_cases c37 : x7_2 < 40
      ·rw [if_pos c37] at H
       have c37b0 : decide (x7_2 < 40) = true := decide_eq_true c37
       clear c37
       have HC38 := Aside0.mk H
       clear H
       go_upto_region 7 with (fail)
       go_cut [31] (fun v31 wc => ∃ (kq : Nat) (x31_37 : Bool), v31 = .bool x31_37 ∧ Aside0 (spec_Compose.j2 kq x7_2 x31_37 l0_0 l0_1 l1_0 l1_1 x141000_2 x141001_2 = some (r1, r2, r3)) ∧ Aside0 (kq ≤ k2) ∧ Aside0 (Kd.R (Kd.int .i64) 3 wc w.heap.size (fun k_ => zx u141001 k_) u141000 x141000_2) ∧ Aside0 (Kd.R (Kd.int .i64) 3 wc w.heap.size (fun k_ => zx u141000 k_) u141001 x141001_2) ∧ Aside0 (wc.heap[gb137]? = some (.cells #[(.slice A0_0 l0_0.length c0_0), (.slice A0_1 l0_1.length c0_1)] 49 (0, 0))) ∧ Aside0 (wc.heap[gb138]? = some (.cells #[(.slice A1_0 l1_0.length c1_0), (.slice A1_1 l1_1.length c1_1)] 49 (0, 0))) ∧ Aside0 (wc.heap[gb139]? = some (.cells #[(.slice none 0 0), (.slice none 0 0)] 49 (0, 0))) ∧ Aside0 (wc.heap[gb140]? = some (.cells #[u141000, u141001] 49 (0, 0))) ∧ Aside0 (Below w.heap.size w wc))
       case first =>
        have H := HC38.out
        clear HC38
        replace H := Option.bind_eq_some_iff.mp H
        obtain ⟨t143, A390, H⟩ := H
        replace H : (if t143 = true then (spec_Compose.j2 k2 x7_2 true l0_0 l0_1 l1_0 l1_1 x141000_2 x141001_2) else ((spec_l4Has.f k2 l1_0 x7_2).bind fun t144 => (spec_Compose.j2 k2 x7_2 t144 l0_0 l0_1 l1_0 l1_1 x141000_2 x141001_2))) = some (r1, r2, r3) := H
        have A39 := Aside0.mk A390
        clear A390
        by_cases c40 : t143 = true
        ·subst c40
         have H1 : (spec_Compose.j2 k2 x7_2 true l0_0 l0_1 l1_0 l1_1 x141000_2 x141001_2) = some (r1, r2, r3) := by first | with_reducible rfl | (rw [if_pos rfl] at H; exact H)
         clear H
         have H := H1
         clear H1
         have H' := Aside0.mk H
         clear H
         have hnb41 := NB137_138.out
         have hnc41 := NB138_137.out
         have hnb42 := NB137_139.out
         have hnc42 := NB139_137.out
         have hnb43 := NB137_140.out
         have hnc43 := NB140_137.out
         have hcz44_0 : wr.cell? ⟨gb137, 0, none⟩ = some (.slice A0_0 l0_0.length c0_0) := zcl BK137.out 0
         have hcz44_1 : wr.cell? ⟨gb137, 1, none⟩ = some (.slice A0_1 l0_1.length c0_1) := zcl BK137.out 1
         have hfz44_0 := blk_frozen BK137.out 0
         have hfz44_1 := blk_frozen BK137.out 1
         go_wp2_with (first | ((with_reducible refine gate_callee (f := 51) rfl ?_); refine zg (some 25) Try.func51 #[.slice A0_0 l0_0.length c0_0, .int .i64 x7_2] ?_; (with_reducible refine (spec_l4Has.calls k2 _ _ l0_0 x7_2 true _ ?side1 ?side2 A39.out).mono ?_); (case side1 => exact zc HR0_0.out); (case side2 => exact HC0_0.out); rintro e w' ⟨rfl, ⟨nd, rfl⟩⟩; refine ⟨_, rfl, ?_⟩))
         go_meet
         case rel => exact ⟨_, (true), (by first | rfl | (simp; done) | (simp [*]; done)), H', ⟨by have := HJ2.out; have := HK2.out; first | omega | exact Nat.le_refl _⟩, ⟨zr HO_141000.out⟩, ⟨zr HO_141001.out⟩, ⟨zb BK137.out⟩, ⟨zb BK138.out⟩, ⟨zb BK139.out⟩, ⟨zb BK140.out⟩, ⟨zl⟩⟩
        ·replace c40 := Bool.eq_false_iff.mpr c40
         subst c40
         have H1 : ((spec_l4Has.f k2 l1_0 x7_2).bind fun t144 => (spec_Compose.j2 k2 x7_2 t144 l0_0 l0_1 l1_0 l1_1 x141000_2 x141001_2)) = some (r1, r2, r3) := by first | with_reducible rfl | (rw [if_neg (show ¬ (false = true) by decide)] at H; exact H)
         clear H
         have H := H1
         clear H1
         replace H := Option.bind_eq_some_iff.mp H
         obtain ⟨t144, A450, H⟩ := H
         replace H : (spec_Compose.j2 k2 x7_2 t144 l0_0 l0_1 l1_0 l1_1 x141000_2 x141001_2) = some (r1, r2, r3) := H
         have A45 := Aside0.mk A450
         clear A450
         have H' := Aside0.mk H
         clear H
         have hnb46 := NB137_138.out
         have hnc46 := NB138_137.out
         have hnb47 := NB137_139.out
         have hnc47 := NB139_137.out
         have hnb48 := NB137_140.out
         have hnc48 := NB140_137.out
         have hcz49_0 : wr.cell? ⟨gb137, 0, none⟩ = some (.slice A0_0 l0_0.length c0_0) := zcl BK137.out 0
         have hcz49_1 : wr.cell? ⟨gb137, 1, none⟩ = some (.slice A0_1 l0_1.length c0_1) := zcl BK137.out 1
         have hfz49_0 := blk_frozen BK137.out 0
         have hfz49_1 := blk_frozen BK137.out 1
         go_wp2_with (first | ((with_reducible refine gate_callee (f := 51) rfl ?_); refine zg (some 25) Try.func51 #[.slice A0_0 l0_0.length c0_0, .int .i64 x7_2] ?_; (with_reducible refine (spec_l4Has.calls k2 _ _ l0_0 x7_2 false _ ?side1 ?side2 A39.out).mono ?_); (case side1 => exact zc HR0_0.out); (case side2 => exact HC0_0.out); rintro e w' ⟨rfl, ⟨nd, rfl⟩⟩; refine ⟨_, rfl, ?_⟩; have hnb50 := NB138_139.out; have hnc50 := NB139_138.out; have hnb51 := NB138_140.out; have hnc51 := NB140_138.out; have hcz52_0 : wr.cell? ⟨gb138, 0, none⟩ = some (.slice A1_0 l1_0.length c1_0) := zcl BK138.out 0; have hcz52_1 : wr.cell? ⟨gb138, 1, none⟩ = some (.slice A1_1 l1_1.length c1_1) := zcl BK138.out 1; have hfz52_0 := blk_frozen BK138.out 0; have hfz52_1 := blk_frozen BK138.out 1) | (go_at_call 51; (with_reducible refine (spec_l4Has.calls k2 _ _ l1_0 x7_2 t144 _ ?side1 ?side2 A45.out).mono ?_); (case side1 => repeat (first | exact (Kd.C_below HR1_0.out zl) | (with_reducible refine Kd.C_alloc ?_ _) | (with_reducible refine Kd.C_drewN ?_ _) | (with_reducible refine Kd.C_drew ?_))); (case side2 => exact HC1_0.out); rintro e w' ⟨rfl, ⟨nd, rfl⟩⟩))
         go_meet
         case rel => exact ⟨_, (t144), (by first | rfl | (simp; done) | (simp [*]; done)), H', ⟨by have := HJ2.out; have := HK2.out; first | omega | exact Nat.le_refl _⟩, ⟨zr HO_141000.out⟩, ⟨zr HO_141001.out⟩, ⟨zb BK137.out⟩, ⟨zb BK138.out⟩, ⟨zb BK139.out⟩, ⟨zb BK140.out⟩, ⟨zl⟩⟩
       case rest =>
        clear HC38
        try clear c1
        try clear c2
        try clear p2
        try clear c3
        try clear c4
        try clear c5
        try clear c8
        try clear c9
        try clear c10
        try clear c13
        try clear c15
        try clear c16
        try clear c17
        try clear c20
        try clear c21
        try clear c24
        try clear c25
        try clear c26
        try clear c29
        try clear c30
        try clear c31
        try clear c32
        try clear c34
        try clear c35
        try clear c37
        try clear c37b0
        try clear c40
        try clear c41
        try clear c42
        try clear c43
        try clear c46
        try clear c47
        try clear c48
        try clear c50
        try clear c51
        try clear hcz11_0
        try clear hcz11_1
        try clear hcz18_0
        try clear hcz18_1
        try clear hcz22_0
        try clear hcz22_1
        try clear hcz27_0
        try clear hcz27_1
        try clear hcz33_0
        try clear hcz33_1
        try clear hcz36_0
        try clear hcz36_1
        try clear hcz44_0
        try clear hcz44_1
        try clear hcz49_0
        try clear hcz49_1
        try clear hcz52_0
        try clear hcz52_1
        try clear hfz11_0
        try clear hfz11_1
        try clear hfz18_0
        try clear hfz18_1
        try clear hfz22_0
        try clear hfz22_1
        try clear hfz27_0
        try clear hfz27_1
        try clear hfz33_0
        try clear hfz33_1
        try clear hfz36_0
        try clear hfz36_1
        try clear hfz44_0
        try clear hfz44_1
        try clear hfz49_0
        try clear hfz49_1
        try clear hfz52_0
        try clear hfz52_1
        try clear p2
        obtain ⟨kq, x31_37, rfl, HA, HJ37, HO_141000, HO_141001, BK137, BK138, BK139, BK140, HB⟩ := hcut
        cases kq with
        | zero => exact absurd HA.out (by simp [spec_Compose.j2])
        | succ kj37 =>
         have H := HA.out
         clear HA
         simp only [spec_Compose.j2] at H
         by_cases c53 : x31_37 = true
         ·subst c53
          have H1 : (if x141000_2.length < 17592186044416 then ((spec_NullValue.f x7_2).bind fun t148 => ((spec_ApplyToValue.f kj37 l0_0 l0_1 t148).bind fun t149 => ((spec_ApplyToValue.f kj37 l1_0 l1_1 t149).bind fun t150 => (if x141001_2.length < 17592186044416 then (spec_Compose.l0 kj37 (wrap64 (x7_2 + 1)) l0_0 l0_1 l1_0 l1_1 (x141000_2 ++ [x7_2]) (x141001_2 ++ [t150])) else (none))))) else (none)) = some (r1, r2, r3) := by first | with_reducible rfl | (rw [if_pos rfl] at H; exact H)
          clear H
          have H := H1
          clear H1
          by_cases c54 : x141000_2.length < 17592186044416
          ·rw [if_pos c54] at H
           have LMc54 := Aside0.mk c54
           clear c54
           obtain ⟨y145, hy145⟩ : ∃ y_ : List Int, y_ = (x141000_2 ++ [x7_2]) := ⟨_, rfl⟩
           replace H : ((spec_NullValue.f x7_2).bind fun t148 => ((spec_ApplyToValue.f kj37 l0_0 l0_1 t148).bind fun t149 => ((spec_ApplyToValue.f kj37 l1_0 l1_1 t149).bind fun t150 => (if x141001_2.length < 17592186044416 then (spec_Compose.l0 kj37 (wrap64 (x7_2 + 1)) l0_0 l0_1 l1_0 l1_1 y145 (x141001_2 ++ [t150])) else (none))))) = some (r1, r2, r3) := by first | (rw [hy145]; with_reducible exact H) | (have H2_ := (Option.bind_some _ _).symm.trans H; rw [hy145]; with_reducible exact H2_) | (have H2_ := (Option.bind_some _ _).symm.trans H; with_reducible exact H2_) | with_reducible exact H | (rw [hy145]; exact H) | exact H
           have Ny145 := Aside0.mk hy145
           clear hy145
           replace H := Option.bind_eq_some_iff.mp H
           obtain ⟨t148, A550, H⟩ := H
           replace H : ((spec_ApplyToValue.f kj37 l0_0 l0_1 t148).bind fun t149 => ((spec_ApplyToValue.f kj37 l1_0 l1_1 t149).bind fun t150 => (if x141001_2.length < 17592186044416 then (spec_Compose.l0 kj37 (wrap64 (x7_2 + 1)) l0_0 l0_1 l1_0 l1_1 y145 (x141001_2 ++ [t150])) else (none)))) = some (r1, r2, r3) := H
           have A55 := Aside0.mk A550
           clear A550
           replace H := Option.bind_eq_some_iff.mp H
           obtain ⟨t149, A560, H⟩ := H
           replace H : ((spec_ApplyToValue.f kj37 l1_0 l1_1 t149).bind fun t150 => (if x141001_2.length < 17592186044416 then (spec_Compose.l0 kj37 (wrap64 (x7_2 + 1)) l0_0 l0_1 l1_0 l1_1 y145 (x141001_2 ++ [t150])) else (none))) = some (r1, r2, r3) := H
           have A56 := Aside0.mk A560
           clear A560
           replace H := Option.bind_eq_some_iff.mp H
           obtain ⟨t150, A570, H⟩ := H
           replace H : (if x141001_2.length < 17592186044416 then (spec_Compose.l0 kj37 (wrap64 (x7_2 + 1)) l0_0 l0_1 l1_0 l1_1 y145 (x141001_2 ++ [t150])) else (none)) = some (r1, r2, r3) := H
           have A57 := Aside0.mk A570
           clear A570
           by_cases c58 : x141001_2.length < 17592186044416
           ·rw [if_pos c58] at H
            have LMc58 := Aside0.mk c58
            clear c58
            obtain ⟨y151, hy151⟩ : ∃ y_ : List Int, y_ = (x141001_2 ++ [t150]) := ⟨_, rfl⟩
            replace H : (spec_Compose.l0 kj37 (wrap64 (x7_2 + 1)) l0_0 l0_1 l1_0 l1_1 y145 y151) = some (r1, r2, r3) := by first | (rw [hy151]; with_reducible exact H) | (have H2_ := (Option.bind_some _ _).symm.trans H; rw [hy151]; with_reducible exact H2_) | (have H2_ := (Option.bind_some _ _).symm.trans H; with_reducible exact H2_) | with_reducible exact H | (rw [hy151]; exact H) | exact H
            have Ny151 := Aside0.mk hy151
            clear hy151
            have H' := Aside0.mk H
            clear H
            have hnb59 := NB140_137.out
            have hnc59 := NB137_140.out
            have hnb60 := NB140_138.out
            have hnc60 := NB138_140.out
            have hnb61 := NB140_139.out
            have hnc61 := NB139_140.out
            have hcz62_0 : wc.cell? ⟨gb140, 0, none⟩ = some (u141000) := zcl BK140.out 0
            have hcz62_1 : wc.cell? ⟨gb140, 1, none⟩ = some (u141001) := zcl BK140.out 1
            have hfz62_0 := blk_frozen BK140.out 0
            have hfz62_1 := blk_frozen BK140.out 1
            try go_wp2_with (first | ((with_reducible refine gate_builtin (b := .append) (xs := #[.tmp 33, .tmp 35]) rfl ?_); at_builtin; refine Kd.R_append (Kd.int .i64) (w0 := w) w.heap.size rfl (.tmp 33) (.tmp 35) 34 3 (.int .i64 0) 8 rfl Try.underlying34 info3 rfl (by decide) (by omega) u141000 x141000_2 x7_2 [.int .i64 x7_2] (fun k_ => zx u141001 k_) (fun _ => False) rfl rfl ?aP (fun _ hk => hk.elim) ?aF ?aO ?aB ?aS ?aL ?_; (case aP => exact rfl); (case aB => exact zl); (case aF => exact (fun k_ hk => Kd.fresh' (Kd.R_lt (zr HO_141001.out)) k_ hk)); (case aO => exact (zr HO_141000.out)); (case aS => exact (below_size zl)); (case aL => have := LMc54.out; omega); intro v146 w63 ho hb hg hat; rw [← Ny145.out] at ho; have n0_ := Aside0.mk (Kd.R_after (ok := (fun _ => True)) (zr (Kd.R_mono HO_141001.out (fun _ hk => ⟨trivial, hk⟩))) hg hat); have n1_ := Aside0.mk (blk_grown (g := gb137) (o := .cells #[.slice A0_0 l0_0.length c0_0, .slice A0_1 l0_1.length c0_1] 49 (0, 0)) (zb BK137.out) hg (Kd.R_ne HO_141000.out BK137.out (by decide))); have n2_ := Aside0.mk (blk_grown (g := gb138) (o := .cells #[.slice A1_0 l1_0.length c1_0, .slice A1_1 l1_1.length c1_1] 49 (0, 0)) (zb BK138.out) hg (Kd.R_ne HO_141000.out BK138.out (by decide))); have n3_ := Aside0.mk (blk_grown (g := gb139) (o := .cells #[.slice none 0 0, .slice none 0 0] 49 (0, 0)) (zb BK139.out) hg (Kd.R_ne HO_141000.out BK139.out (by decide))); have n4_ := Aside0.mk (blk_grown (g := gb140) (o := .cells #[u141000, u141001] 49 (0, 0)) (zb BK140.out) hg (Kd.R_ne HO_141000.out BK140.out (by decide))); have n5_ := Aside0.mk (hb); have n6_ := Aside0.mk (ho); clear HO_141001; clear BK137; clear BK138; clear BK139; clear BK140; clear HB; clear HO_141000; have HO_141001 := n0_; have BK137 := n1_; have BK138 := n2_; have BK139 := n3_; have BK140 := n4_; have HB := n5_; have HO147 := n6_; clear n0_ n1_ n2_ n3_ n4_ n5_ n6_; clear ho hb hg hat; obtain ⟨Ao64, co64, eo64⟩ := Kd.R_slice HO147.out; subst eo64; have hcz65_0 : w63.cell? ⟨gb140, 0, none⟩ = some (u141000) := zcl BK140.out 0; have hcz65_1 : w63.cell? ⟨gb140, 1, none⟩ = some (u141001) := zcl BK140.out 1; have hfz65_0 := blk_frozen BK140.out 0; have hfz65_1 := blk_frozen BK140.out 1))
            have n0_ : Aside0 (Kd.R (Kd.int .i64) 3 (w63.setCell ⟨gb140, 0, none⟩ (.slice Ao64 y145.length co64)) w.heap.size (fun k_ => zx (.slice Ao64 y145.length co64) k_) u141001 x141001_2) := ⟨zr (Kd.R_mono (Kd.R_far (p := ⟨gb140, 0, none⟩) (Kd.R_types HO_141001.out BK140.out (by decide)) (fun _ hk => hk.2) (.slice Ao64 y145.length co64)) (fun _ hk => hk.1.2))⟩
            have n1_ : Aside0 (Kd.R (Kd.int .i64) 3 (w63.setCell ⟨gb140, 0, none⟩ (.slice Ao64 y145.length co64)) w.heap.size (fun k_ => zx u141001 k_) (.slice Ao64 y145.length co64) y145) := ⟨zr (Kd.R_mono (Kd.R_far (p := ⟨gb140, 0, none⟩) (Kd.R_types HO147.out BK140.out (by decide)) (fun _ hk => hk.2) (.slice Ao64 y145.length co64)) (fun _ hk => hk.1))⟩
            have n2_ : Aside0 ((w63.setCell ⟨gb140, 0, none⟩ (.slice Ao64 y145.length co64)).heap[gb137]? = some (.cells #[.slice A0_0 l0_0.length c0_0, .slice A0_1 l0_1.length c0_1] 49 (0, 0))) := ⟨by (with_reducible repeat (first | refine blk_drewN ?_ _ | refine blk_drew ?_ | refine blk_alloc ?_ _)); refine blk_far ?_ NB137_140.out _; (with_reducible repeat (first | refine blk_drewN ?_ _ | refine blk_drew ?_ | refine blk_alloc ?_ _)); exact BK137.out⟩
            have n3_ : Aside0 ((w63.setCell ⟨gb140, 0, none⟩ (.slice Ao64 y145.length co64)).heap[gb138]? = some (.cells #[.slice A1_0 l1_0.length c1_0, .slice A1_1 l1_1.length c1_1] 49 (0, 0))) := ⟨by (with_reducible repeat (first | refine blk_drewN ?_ _ | refine blk_drew ?_ | refine blk_alloc ?_ _)); refine blk_far ?_ NB138_140.out _; (with_reducible repeat (first | refine blk_drewN ?_ _ | refine blk_drew ?_ | refine blk_alloc ?_ _)); exact BK138.out⟩
            have n4_ : Aside0 ((w63.setCell ⟨gb140, 0, none⟩ (.slice Ao64 y145.length co64)).heap[gb139]? = some (.cells #[.slice none 0 0, .slice none 0 0] 49 (0, 0))) := ⟨by (with_reducible repeat (first | refine blk_drewN ?_ _ | refine blk_drew ?_ | refine blk_alloc ?_ _)); refine blk_far ?_ NB139_140.out _; (with_reducible repeat (first | refine blk_drewN ?_ _ | refine blk_drew ?_ | refine blk_alloc ?_ _)); exact BK139.out⟩
            have n5_ : Aside0 ((w63.setCell ⟨gb140, 0, none⟩ (.slice Ao64 y145.length co64)).heap[gb140]? = some (.cells #[.slice Ao64 y145.length co64, u141001] 49 (0, 0))) := ⟨by (with_reducible repeat (first | refine blk_drewN ?_ _ | refine blk_drew ?_ | refine blk_alloc ?_ _)); refine blk_put (cs := #[u141000, u141001]) ?_ 0 _ rfl; (with_reducible repeat (first | refine blk_drewN ?_ _ | refine blk_drew ?_ | refine blk_alloc ?_ _)); exact BK140.out⟩
            have n6_ : Aside0 (Below w.heap.size w (w63.setCell ⟨gb140, 0, none⟩ (.slice Ao64 y145.length co64))) := ⟨zl⟩
            (try clear HO_141001)
            (try clear HO147)
            (try clear BK137)
            (try clear BK138)
            (try clear BK139)
            (try clear BK140)
            (try clear HB)
            generalize (w63.setCell ⟨gb140, 0, none⟩ (.slice Ao64 y145.length co64)) = w66 at n0_ n1_ n2_ n3_ n4_ n5_ n6_ ⊢
            have HO_141001 := n0_
            have HO147 := n1_
            have BK137 := n2_
            have BK138 := n3_
            have BK139 := n4_
            have BK140 := n5_
            have HB := n6_
            clear n0_ n1_ n2_ n3_ n4_ n5_ n6_
            replace HO_141001 := zm (Kd.R_drew HO_141001.out)
            replace HO147 := zm (Kd.R_drew HO147.out)
            replace BK137 := zm (blk_drew BK137.out)
            replace BK138 := zm (blk_drew BK138.out)
            replace BK139 := zm (blk_drew BK139.out)
            replace BK140 := zm (blk_drew BK140.out)
            replace HB := zm (below_drew1 HB.out)
            refine start_ (n := 12) (S := fun w' => w'.cell? ⟨gb140, 0, none⟩ = some (.slice Ao64 y145.length co64) ∧ w'.cell? ⟨gb140, 1, none⟩ = some (u141001) ∧ w'.cell? ⟨gb138, 0, none⟩ = some (.slice A1_0 l1_0.length c1_0) ∧ w'.cell? ⟨gb138, 1, none⟩ = some (.slice A1_1 l1_1.length c1_1) ∧ w'.cell? ⟨gb137, 0, none⟩ = some (.slice A0_0 l0_0.length c0_0) ∧ w'.cell? ⟨gb137, 1, none⟩ = some (.slice A0_1 l0_1.length c0_1)) (ds := [11]) #[false, false, false, false, false, false, false, false, false, false, false, false] (by kernel_rfl) rfl rfl ⟨zcl BK140.out 0, zcl BK140.out 1, zcl BK138.out 0, zcl BK138.out 1, zcl BK137.out 0, zcl BK137.out 1⟩ (fun hHeld => ?_); refine with_tabW spec_Compose.tab9 spec_Compose.bits9 (fun HT_ HW_ => ?_)
            generalize w66.drew = w67 at HO_141001 HO147 BK137 BK138 BK139 BK140 HB hHeld ⊢
            refine zP 0 (some 38) (zA 12 1) (any_of HT_.out (by kernel_rfl)) ?_
            refine zP 4 (some 42) (zA 12 17) (any_of HT_.out (by kernel_rfl)) ?_
            refine take_ (i := 1) (N := some 39) (v := ?_) (a' := ?_) (zA 12 19) rfl rfl (take_ofW HT_.out HW_.out (by kernel_rfl)) (fun _ _ _ h => h) (Or.inl ⟨by rfl, ?_⟩) hHeld ?_ ?_
            rotate_left
            ·rintro w' ⟨s0, s1, s2, s3, s4, s5⟩
             go_simp
             with_reducible rfl
            rotate_left
            ·simp only [Act.put, List.setIfInBounds_toArray, List.set_cons_zero, List.set_cons_succ, i64_w, i32_w]
             rfl
            refine take_ (i := 2) (N := some 40) (v := ?_) (a' := ?_) (zA 12 23) rfl rfl (take_ofW HT_.out HW_.out (by kernel_rfl)) (fun _ _ _ h => h) (Or.inl ⟨by rfl, ?_⟩) hHeld ?_ ?_
            rotate_left
            ·rintro w' ⟨s0, s1, s2, s3, s4, s5⟩
             go_simp
             with_reducible rfl
            rotate_left
            ·simp only [Act.put, List.setIfInBounds_toArray, List.set_cons_zero, List.set_cons_succ, i64_w, i32_w]
             rfl
            refine take_ (i := 3) (N := some 41) (v := ?_) (a' := ?_) (zA 12 31) rfl rfl (take_ofW HT_.out HW_.out (by kernel_rfl)) (fun _ _ _ h => h) (Or.inl ⟨by rfl, ?_⟩) hHeld ?_ ?_
            rotate_left
            ·rintro w' ⟨s0, s1, s2, s3, s4, s5⟩
             go_simp
             with_reducible rfl
            rotate_left
            ·simp only [Act.put, List.setIfInBounds_toArray, List.set_cons_zero, List.set_cons_succ, i64_w, i32_w]
             rfl
            refine one_ (i := 5) (N := some 43) (zA 12 63) rfl rfl (one_of HT_.out (by kernel_rfl)) (by decide) (fun K hK => ?_)
            refine goes_ Try.func53 (by kernel_rfl) rfl #[.int .i64 x7_2] (by rfl) rfl rfl (by (try simp only [List.map_toArray, List.map_cons, List.map_nil]); first | done | rfl | (simp only [List.length_drop, List.length_take]; rfl)) ?_
            with_reducible refine (spec_NullValue.calls x7_2 t148 _ A55.out).mono ?_
            rintro e w' ⟨rfl, ⟨nd, rfl⟩⟩
            refine ⟨_, rfl, ?_⟩
            refine hK.out _ _ ⟨zcl BK140.out 0, zcl BK140.out 1, zcl BK138.out 0, zcl BK138.out 1, zcl BK137.out 0, zcl BK137.out 1⟩ (fun hHeld => ?_)
            clear hK K
            refine zO (some 43) ?_
            refine one_ (i := 6) (N := some 44) (zA 12 127) rfl rfl (one_of HT_.out (by kernel_rfl)) (by decide) (fun K hK => ?_)
            refine goes_ Try.func52 (by kernel_rfl) rfl #[.agg #[.slice A0_0 l0_0.length c0_0, .slice A0_1 l0_1.length c0_1], .int .i64 t148] (by rfl) rfl rfl (by (try simp only [List.map_toArray, List.map_cons, List.map_nil]); first | done | rfl | (simp only [List.length_drop, List.length_take]; rfl)) ?_
            with_reducible refine (spec_ApplyToValue.calls kj37 _ _ l0_0 _ _ l0_1 t148 t149 _ ?side1 ?side2 ?side3 ?side4 A56.out).mono ?_
            (case side1 => repeat (first | exact (Kd.C_below HR0_0.out zl) | (with_reducible refine Kd.C_alloc ?_ _) | (with_reducible refine Kd.C_drewN ?_ _) | (with_reducible refine Kd.C_drew ?_)))
            (case side2 => exact HC0_0.out)
            (case side3 => repeat (first | exact (Kd.C_below HR0_1.out zl) | (with_reducible refine Kd.C_alloc ?_ _) | (with_reducible refine Kd.C_drewN ?_ _) | (with_reducible refine Kd.C_drew ?_)))
            (case side4 => exact HC0_1.out)
            rintro e w68 ⟨rfl, hb⟩
            refine ⟨_, rfl, ?_⟩
            replace HO_141001 := zRb HO_141001 hb
            replace HO147 := zRb HO147 hb
            replace BK137 := zbk BK137 hb
            replace BK138 := zbk BK138 hb
            replace BK139 := zbk BK139 hb
            replace BK140 := zbk BK140 hb
            replace HB := zm (below_step zl hb)
            (try clear hb)
            refine hK.out _ _ ⟨zcl BK140.out 0, zcl BK140.out 1, zcl BK138.out 0, zcl BK138.out 1, zcl BK137.out 0, zcl BK137.out 1⟩ (fun hHeld => ?_)
            clear hK K
            refine zO (some 44) ?_
            refine one_ (i := 7) (N := some 45) (zA 12 255) rfl rfl (one_of HT_.out (by kernel_rfl)) (by decide) (fun K hK => ?_)
            refine goes_ Try.func52 (by kernel_rfl) rfl #[.agg #[.slice A1_0 l1_0.length c1_0, .slice A1_1 l1_1.length c1_1], .int .i64 t149] (by rfl) rfl rfl (by (try simp only [List.map_toArray, List.map_cons, List.map_nil]); first | done | rfl | (simp only [List.length_drop, List.length_take]; rfl)) ?_
            with_reducible refine (spec_ApplyToValue.calls kj37 _ _ l1_0 _ _ l1_1 t149 t150 _ ?side1 ?side2 ?side3 ?side4 A57.out).mono ?_
            (case side1 => exact zc HR1_0.out)
            (case side2 => exact HC1_0.out)
            (case side3 => exact zc HR1_1.out)
            (case side4 => exact HC1_1.out)
            rintro e w69 ⟨rfl, hb⟩
            refine ⟨_, rfl, ?_⟩
            replace HO_141001 := zRb HO_141001 hb
            replace HO147 := zRb HO147 hb
            replace BK137 := zbk BK137 hb
            replace BK138 := zbk BK138 hb
            replace BK139 := zbk BK139 hb
            replace BK140 := zbk BK140 hb
            replace HB := zm (below_step zl hb)
            (try clear hb)
            refine hK.out _ _ ⟨zcl BK140.out 0, zcl BK140.out 1, zcl BK138.out 0, zcl BK138.out 1, zcl BK137.out 0, zcl BK137.out 1⟩ (fun hHeld => ?_)
            clear hK K
            refine zO (some 45) ?_
            refine one_ (i := 8) (N := some 46) (zA 12 511) rfl rfl (one_of HT_.out (by kernel_rfl)) (by decide) (fun K hK => ?_)
            refine value_ (w1 := ?_) (v := ?_) (by rfl) rfl ?_ ?_
            rotate_left 2
            ·go_simp
             constructor
             ·rfl
             ·rfl
            refine hK.out _ _ ⟨(blk_cell (blk_alloc BK140.out _) 0).trans rfl, (blk_cell (blk_alloc BK140.out _) 1).trans rfl, (blk_cell (blk_alloc BK138.out _) 0).trans rfl, (blk_cell (blk_alloc BK138.out _) 1).trans rfl, (blk_cell (blk_alloc BK137.out _) 0).trans rfl, (blk_cell (blk_alloc BK137.out _) 1).trans rfl⟩ (fun hHeld => ?_)
            clear hK K
            refine zO (some 46) ?_
            refine one_ (i := 9) (N := some 47) (zA 12 1023) rfl rfl (one_of HT_.out (by kernel_rfl)) (by decide) (fun K hK => ?_)
            refine Kd.R_append_step (Kd.int .i64) (w0 := w) w.heap.size (by rfl) (.tmp 39) (.tmp 46) 34 3 (.int .i64 0) 8 rfl Try.underlying34 info3 rfl (by decide) (by omega) u141001 x141001_2 t150 [.int .i64 t150] (fun k_ => zx (.slice Ao64 y145.length co64) k_) (fun _ => False) rfl rfl ?aP (fun _ hk => hk.elim) ?aF ?aO ?aB ?aS ?aL ?_
            (case aP => exact rfl)
            (case aB => exact zl)
            (case aF => exact (fun k_ hk => Kd.fresh' (Kd.R_lt (zr HO147.out)) k_ hk))
            (case aO => exact (zr HO_141001.out))
            (case aS => exact (below_size zl))
            (case aL => have := LMc58.out; omega)
            intro v152 w70 ho hb hg hat
            rw [← Ny151.out] at ho
            have n0_ := Aside0.mk (blk_grown (g := gb137) (o := .cells #[.slice A0_0 l0_0.length c0_0, .slice A0_1 l0_1.length c0_1] 49 (0, 0)) (zb BK137.out) hg (Kd.R_ne HO_141001.out BK137.out (by decide)))
            have n1_ := Aside0.mk (blk_grown (g := gb138) (o := .cells #[.slice A1_0 l1_0.length c1_0, .slice A1_1 l1_1.length c1_1] 49 (0, 0)) (zb BK138.out) hg (Kd.R_ne HO_141001.out BK138.out (by decide)))
            have n2_ := Aside0.mk (blk_grown (g := gb139) (o := .cells #[.slice none 0 0, .slice none 0 0] 49 (0, 0)) (zb BK139.out) hg (Kd.R_ne HO_141001.out BK139.out (by decide)))
            have n3_ := Aside0.mk (blk_grown (g := gb140) (o := .cells #[.slice Ao64 y145.length co64, u141001] 49 (0, 0)) (zb BK140.out) hg (Kd.R_ne HO_141001.out BK140.out (by decide)))
            have n4_ := Aside0.mk (Kd.R_after (ok := (fun _ => True)) (zr (Kd.R_mono HO147.out (fun _ hk => ⟨trivial, hk⟩))) hg hat)
            have n5_ := Aside0.mk (hb)
            have n6_ := Aside0.mk (ho)
            clear BK137
            clear BK138
            clear BK139
            clear BK140
            clear HO147
            clear HB
            clear HO_141001
            have BK137 := n0_
            have BK138 := n1_
            have BK139 := n2_
            have BK140 := n3_
            have HO147 := n4_
            have HB := n5_
            have HO153 := n6_
            clear n0_ n1_ n2_ n3_ n4_ n5_ n6_
            clear ho hb hg hat
            obtain ⟨Ao71, co71, eo71⟩ := Kd.R_slice HO153.out
            (first | subst eo71 | (injection eo71 with f1_ f2_ f3_; have f4_ := f1_.symm; have f5_ := f3_.symm; clear f1_ f2_ f3_; subst f4_; subst f5_))
            refine hK.out _ _ ⟨zcl BK140.out 0, zcl BK140.out 1, zcl BK138.out 0, zcl BK138.out 1, zcl BK137.out 0, zcl BK137.out 1⟩ (fun hHeld => ?_)
            clear hK K
            refine zO (some 47) ?_
            refine zP 10 (some 48) (zA 12 2047) (any_of HT_.out (by kernel_rfl)) ?_
            refine last_ (i := 11) (N := none) (zA 12 4095) rfl rfl (one_of HT_.out (by kernel_rfl)) (by decide) (fun K hK => ?_)
            have hs72 : w70.cell? ⟨gb140, 1, none⟩ = some (u141001) := zcl BK140.out 1
            have hfs72 := blk_frozen BK140.out 1
            have hns72_0 := NB137_140.out
            have hns72_1 := NB138_140.out
            have hns72_2 := NB139_140.out
            have hms72_0 := NB140_137.out
            have hms72_1 := NB140_138.out
            have hms72_2 := NB140_139.out
            refine skip_ (w1 := ?_) (by rfl) rfl ?_ ?_
            rotate_left
            ·go_simp
             rfl
            refine hK.out _ _ ?_
            clear hK K
            refine done_ (done_of HT_.out (by kernel_rfl)) ?_
            try go_wp2
            go_roundg kj37
            case measure => have := HJ2.out; have := HK2.out; have := HJ37.out; omega
            case rel => exact ⟨(wrap64 (x7_2 + 1)), (y145), (y151), (.slice Ao64 y145.length co64), (.slice Ao71 y151.length co71), (by first | rfl | (simp; done) | (simp [*]; done)), H', ⟨by have := HJ2.out; have := HK2.out; have := HJ37.out; omega⟩, ⟨zr (Kd.R_mono (Kd.R_far (p := ⟨gb140, 1, none⟩) (Kd.R_types HO147.out BK140.out (by decide)) (fun _ hk => hk.2) (.slice Ao71 y151.length co71)) (fun _ hk => hk.1.2))⟩, ⟨zr (Kd.R_mono (Kd.R_far (p := ⟨gb140, 1, none⟩) (Kd.R_types HO153.out BK140.out (by decide)) (fun _ hk => hk.2) (.slice Ao71 y151.length co71)) (fun _ hk => hk.1))⟩, ⟨by (with_reducible repeat (first | refine blk_drewN ?_ _ | refine blk_drew ?_ | refine blk_alloc ?_ _)); refine blk_far ?_ NB137_140.out _; (with_reducible repeat (first | refine blk_drewN ?_ _ | refine blk_drew ?_ | refine blk_alloc ?_ _)); exact BK137.out⟩, ⟨by (with_reducible repeat (first | refine blk_drewN ?_ _ | refine blk_drew ?_ | refine blk_alloc ?_ _)); refine blk_far ?_ NB138_140.out _; (with_reducible repeat (first | refine blk_drewN ?_ _ | refine blk_drew ?_ | refine blk_alloc ?_ _)); exact BK138.out⟩, ⟨by (with_reducible repeat (first | refine blk_drewN ?_ _ | refine blk_drew ?_ | refine blk_alloc ?_ _)); refine blk_far ?_ NB139_140.out _; (with_reducible repeat (first | refine blk_drewN ?_ _ | refine blk_drew ?_ | refine blk_alloc ?_ _)); exact BK139.out⟩, ⟨by (with_reducible repeat (first | refine blk_drewN ?_ _ | refine blk_drew ?_ | refine blk_alloc ?_ _)); refine blk_put (cs := #[.slice Ao64 y145.length co64, u141001]) ?_ 1 _ rfl; (with_reducible repeat (first | refine blk_drewN ?_ _ | refine blk_drew ?_ | refine blk_alloc ?_ _)); exact BK140.out⟩, ⟨zl⟩⟩
           ·rw [if_neg c58] at H
            exact absurd H (by simp)
          ·rw [if_neg c54] at H
           exact absurd H (by simp)
         ·replace c53 := Bool.eq_false_iff.mpr c53
          subst c53
          have H1 : (spec_Compose.l0 kj37 (wrap64 (x7_2 + 1)) l0_0 l0_1 l1_0 l1_1 x141000_2 x141001_2) = some (r1, r2, r3) := by first | with_reducible rfl | (rw [if_neg (show ¬ (false = true) by decide)] at H; exact H)
          clear H
          have H := H1
          clear H1
          have H' := Aside0.mk H
          clear H
          go_wp2
          go_roundg kj37
          case measure => have := HJ2.out; have := HK2.out; have := HJ37.out; omega
          case rel => exact ⟨(wrap64 (x7_2 + 1)), (x141000_2), (x141001_2), (u141000), (u141001), (by first | rfl | (simp; done) | (simp [*]; done)), H', ⟨by have := HJ2.out; have := HK2.out; have := HJ37.out; omega⟩, ⟨zr HO_141000.out⟩, ⟨zr HO_141001.out⟩, ⟨zb BK137.out⟩, ⟨zb BK138.out⟩, ⟨zb BK139.out⟩, ⟨zb BK140.out⟩, ⟨zl⟩⟩
      ·rw [if_neg c37] at H
       have c37b0 : decide (x7_2 < 40) = false := decide_eq_false c37
       clear c37
       simp only [Option.some.injEq, Prod.mk.injEq] at H
       obtain ⟨rfl, rfl, rfl⟩ := H
       have hnb73 := NB140_137.out
       have hnc73 := NB137_140.out
       have hnb74 := NB140_138.out
       have hnc74 := NB138_140.out
       have hnb75 := NB140_139.out
       have hnc75 := NB139_140.out
       have hcz76_0 : wr.cell? ⟨gb140, 0, none⟩ = some (u141000) := zcl BK140.out 0
       have hcz76_1 : wr.cell? ⟨gb140, 1, none⟩ = some (u141001) := zcl BK140.out 1
       have hfz76_0 := blk_frozen BK140.out 0
       have hfz76_1 := blk_frozen BK140.out 1
       obtain ⟨Ao77, co77, eo77⟩ := Kd.R_slice HO_141000.out
       subst eo77
       have hnb78 := NB139_137.out
       have hnc78 := NB137_139.out
       have hnb79 := NB139_138.out
       have hnc79 := NB138_139.out
       have hcz80_0 : wr.cell? ⟨gb139, 0, none⟩ = some (.slice none 0 0) := zcl BK139.out 0
       have hcz80_1 : wr.cell? ⟨gb139, 1, none⟩ = some (.slice none 0 0) := zcl BK139.out 1
       have hfz80_0 := blk_frozen BK139.out 0
       have hfz80_1 := blk_frozen BK139.out 1
       obtain ⟨Ao81, co81, eo81⟩ := Kd.R_slice HO_141001.out
       subst eo81
       go_wp2
       refine bodyPost_ret (results_ct rfl _ _ gb139 49 #[.slice Ao77 x141000_2.length co77, .slice Ao81 x141001_2.length co81] (0, 0) _ rfl (by (with_reducible repeat (first | refine blk_drewN ?_ _ | refine blk_drew ?_ | refine blk_alloc ?_ _)); refine blk_put (cs := #[.slice Ao77 x141000_2.length co77, .slice none 0 0]) ?_ 1 _ rfl; (with_reducible repeat (first | refine blk_drewN ?_ _ | refine blk_drew ?_ | refine blk_alloc ?_ _)); refine blk_put (cs := #[.slice none 0 0, .slice none 0 0]) ?_ 0 _ rfl; (with_reducible repeat (first | refine blk_drewN ?_ _ | refine blk_drew ?_ | refine blk_alloc ?_ _)); exact BK139.out) Try.underlying49 rfl (by kernel_rfl)) rfl ?_
       exact ⟨_, _, by first | rfl | (simp [errW_none, errW_some] <;> rfl) | (simp [*, errW_none, errW_some] <;> rfl), by (with_reducible repeat (first | apply Kd.R_alloc | apply Kd.R_drewN | apply Kd.R_drew)); exact Kd.R_mono (Kd.R_far (p := ⟨gb139, 1, none⟩) (Kd.R_far (p := ⟨gb139, 0, none⟩) (Kd.R_types HO_141000.out BK139.out (by decide)) (fun _ hk => hk.2) (.slice Ao77 x141000_2.length co77)) (fun _ hk => hk.2) (.slice Ao81 x141001_2.length co81)) (fun _ hk => hk.1), by (with_reducible repeat (first | apply Kd.R_alloc | apply Kd.R_drewN | apply Kd.R_drew)); exact Kd.R_mono (Kd.R_far (p := ⟨gb139, 1, none⟩) (Kd.R_far (p := ⟨gb139, 0, none⟩) (Kd.R_types HO_141001.out BK139.out (by decide)) (fun _ hk => hk.2) (.slice Ao77 x141000_2.length co77)) (fun _ hk => hk.2) (.slice Ao81 x141001_2.length co81)) (fun _ hk => hk.1), zl⟩

/-! ### impl_within: function 70 -/
def impl_within.f (a0 : Int) (a1 : Int) (a2 : Int) : Option (Bool) := if a1 ≤ a0 then (some (decide (a0 ≤ a2))) else (some false)
set_option maxHeartbeats 8000000 in
set_option maxRecDepth 100000 in
theorem impl_within.calls (a0 : Int) (a1 : Int) (a2 : Int) (r : Bool) (w : World) (h : impl_within.f a0 a1 a2 = some r) :
  Calls Try.prog 70 #[.int .i64 a0, .int .i64 a1, .int .i64 a2] w fun e w' => e = .returned (.bool r) ∧ Drawn0 w w' := by
 have H : (if a1 ≤ a0 then (some (decide (a0 ≤ a2))) else (some false)) = some r := h
 clear h
 by_cases c4 : a1 ≤ a0
 ·rw [if_pos c4] at H
  have c4b0 : decide (a1 ≤ a0) = true := decide_eq_true c4
  clear c4
  obtain rfl := Option.some.inj H
  go_enter Try.func70, Try.ntmps70
  go_wp2
  go_ret
  exact ⟨by first | rfl | (simp; done) | (simp [*]; done), by repeat (first | exact Drawn0.refl _ | apply Drawn0.step)⟩
 ·rw [if_neg c4] at H
  have c4b0 : decide (a1 ≤ a0) = false := decide_eq_false c4
  clear c4
  obtain rfl := Option.some.inj H
  go_enter Try.func70, Try.ntmps70
  go_wp2
  go_ret
  exact ⟨by first | rfl | (simp; done) | (simp [*]; done), by repeat (first | exact Drawn0.refl _ | apply Drawn0.step)⟩

/-! ### impl_IsValidValue: function 71 -/
def impl_IsValidValue.f (a0 : Int) : Option (Bool) := (impl_within.f a0 (-40) 9).bind fun t154 => (some t154)
set_option maxHeartbeats 8000000 in
set_option maxRecDepth 100000 in
theorem impl_IsValidValue.calls (a0 : Int) (r : Bool) (w : World) (h : impl_IsValidValue.f a0 = some r) :
  Calls Try.prog 71 #[.int .i64 a0] w fun e w' => e = .returned (.bool r) ∧ Drawn0 w w' := by
 have H : ((impl_within.f a0 (-40) 9).bind fun t154 => (some t154)) = some r := h
 clear h
 replace H := Option.bind_eq_some_iff.mp H
 obtain ⟨t154, A20, H⟩ := H
 replace H : (some t154) = some r := H
 have A2 := Aside0.mk A20
 clear A20
 obtain rfl := Option.some.inj H
 go_enter Try.func71, Try.ntmps71
 go_wp2_with (first | ((with_reducible refine gate_callee (f := 70) rfl ?_); refine zg (some 4) Try.func70 #[.int .i64 a0, .int .i64 (-40), .int .i64 9] ?_; (with_reducible refine (impl_within.calls a0 (-40) 9 t154 _ A2.out).mono ?_); rintro e w' ⟨rfl, ⟨nd, rfl⟩⟩; refine ⟨_, rfl, ?_⟩))
 go_ret
 exact ⟨by first | rfl | (simp; done) | (simp [*]; done), by repeat (first | exact Drawn0.refl _ | apply Drawn0.step)⟩

end Go.Proofs.Ytjphbdnfbkfgiaa.PFnExactCompose
