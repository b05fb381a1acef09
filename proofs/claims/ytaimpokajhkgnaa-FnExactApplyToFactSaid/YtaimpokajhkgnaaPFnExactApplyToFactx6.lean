-- Written by a program of this session: the kit's printer, turned by wip/mkprint.py.
import Derived.Test.YtaimpokajhkgnaaPFnExactApplyToFactx0
import Derived.Test.YtaimpokajhkgnaaPFnExactApplyToFactx1
import Derived.Test.YtaimpokajhkgnaaPFnExactApplyToFactx3
import Derived.Test.YtaimpokajhkgnaaPFnExactApplyToFactx4
import Derived.Test.YtaimpokajhkgnaaPFnExactApplyToFactx5
namespace Go.Proofs.Ytaimpokajhkgnaa.PFnExactApplyToFact
open Go.RowKit Go.Proofs.YtaimpokajhkgnaaW.PrintWords Go.Proofs.YtaimpokajhkgnaaW.PrintLast Go.Proofs.YtaimpokajhkgnaaW.PrintMore
attribute [local go_sem] max2_int min2_int max_two min_two max_three min_three max_four min_four   -- for this text's walks alone
set_option linter.unusedVariables false
set_option linter.unusedSimpArgs false

/-! ### laws_FnExactApplyToFact: function 11 -/
def laws_FnExactApplyToFact.j0 : Nat → Bool → List Int → List Int → Int → List Int → Int → List Int → Int → List Int → Option (Bool)
  | 0, _, _, _, _, _, _, _, _, _ => none
  | k + 1, x63, x208000, x208001, x209000, x209001, x226000, x226001, x243000, x243001 => if x63 = true then (some false) else ((laws_markFact.f k x243000 x243001 1).bind fun bt262 => ((laws_heldFact.f k x243000 bt262.2 1).bind fun t264 => (if t264 < 0 then (some false) else (if t264 = bt262.1 then ((laws_toSubstitution.f k x208000 x208001).bind fun bt265 => ((laws_toFact.f k x209000 x209001).bind fun bt271 => ((impl_ApplyToFact.f k bt265.1 bt265.2 bt271.1 bt271.2).bind fun bt275 => ((laws_eqFact.f k bt275.1 bt275.2 x226000 x226001).bind fun t280 => (if t280 = true then ((laws_heldFact.f k x243000 bt262.2 1).bind fun t281 => (if t281 < 0 then (some false) else (if t281 = bt262.1 then (some true) else (some false)))) else (some false)))))) else (some false)))))
def laws_FnExactApplyToFact.f (k : Nat) (l0_0 : List Int) (l0_1 : List Int) (a1_0 : Int) (l1_1 : List Int) : Option (Bool) := (laws_szSubstitution.f l0_0 l0_1 1048576).bind fun t209 => (if t209 < 0 then (some true) else ((laws_szFact.f a1_0 l1_1 t209).bind fun t210 => (if t210 < 0 then (some true) else ((laws_toSubstitution.f k l0_0 l0_1).bind fun bt211 => ((laws_toFact.f k a1_0 l1_1).bind fun bt217 => ((spec_ApplyToFact.f k bt211.1 bt211.2 bt217.1 bt217.2).bind fun bt221 => ((laws_toSubstitution.f k l0_0 l0_1).bind fun bt226 => ((laws_toFact.f k a1_0 l1_1).bind fun bt233 => ((impl_ApplyToFact.f k bt226.1 bt226.2 bt233.1 bt233.2).bind fun bt238 => ((laws_eqFact.f k bt238.1 bt238.2 bt221.1 bt221.2).bind fun t243 => (if t243 = true then ((laws_toSubstitution.f k l0_0 l0_1).bind fun bt244 => ((laws_eqSubstitution.f k bt226.1 bt226.2 bt244.1 bt244.2).bind fun t250 => (if t250 = true then ((laws_toFact.f k a1_0 l1_1).bind fun bt251 => ((laws_eqFact.f k bt233.1 bt233.2 bt251.1 bt251.2).bind fun t255 => (if t255 = true then ((laws_markSubstitution.f k bt226.1 bt226.2 1).bind fun bt256 => ((laws_markFact.f k bt233.1 bt233.2 bt256.1).bind fun bt259 => (if bt259.1 < 0 then (laws_FnExactApplyToFact.j0 k true l0_0 l0_1 a1_0 l1_1 bt221.1 bt221.2 bt238.1 bt238.2) else ((laws_eqFact.f k bt238.1 bt238.2 bt221.1 bt221.2).bind fun t261 => (laws_FnExactApplyToFact.j0 k (!t261) l0_0 l0_1 a1_0 l1_1 bt221.1 bt221.2 bt238.1 bt238.2))))) else (some false)))) else (some false)))) else (some false))))))))))))
theorem laws_FnExactApplyToFact.mono_l : ∀ k, (∀ y0 y1 y2 y3 y4 y5 y6 y7 y8, LeO (laws_FnExactApplyToFact.j0 k y0 y1 y2 y3 y4 y5 y6 y7 y8) (laws_FnExactApplyToFact.j0 (k + 1) y0 y1 y2 y3 y4 y5 y6 y7 y8))
  | 0 => fun _ _ _ _ _ _ _ _ _ r h => by simp [laws_FnExactApplyToFact.j0] at h
  | k + 1 => by
    have ih0 := laws_FnExactApplyToFact.mono_l k
    · intro y0 y1 y2 y3 y4 y5 y6 y7 y8
      unfold laws_FnExactApplyToFact.j0
      repeat' first
      | (with_reducible exact ih0 _ _ _ _ _ _ _ _ _)
      | (with_reducible exact impl_ApplyToFact.mono _ _ _ _ _)
      | (with_reducible exact laws_eqFact.mono _ _ _ _ _)
      | (with_reducible exact laws_eqSubstitution.mono _ _ _ _ _)
      | (with_reducible exact laws_heldFact.mono _ _ _ _)
      | (with_reducible exact laws_markFact.mono _ _ _ _)
      | (with_reducible exact laws_markSubstitution.mono _ _ _ _)
      | (with_reducible exact laws_toFact.mono _ _ _)
      | (with_reducible exact laws_toSubstitution.mono _ _ _)
      | (with_reducible exact spec_ApplyToFact.mono _ _ _ _ _)
      | (with_reducible exact LeO.refl _)
      | (with_reducible exact LeO.none _)
      | (with_reducible refine LeO.ite ?_ ?_)
      | (with_reducible refine LeO.bind ?_ (fun _ => ?_))
      | exact ih0 _ _ _ _ _ _ _ _ _
      | exact impl_ApplyToFact.mono _ _ _ _ _
      | exact laws_eqFact.mono _ _ _ _ _
      | exact laws_eqSubstitution.mono _ _ _ _ _
      | exact laws_heldFact.mono _ _ _ _
      | exact laws_markFact.mono _ _ _ _
      | exact laws_markSubstitution.mono _ _ _ _
      | exact laws_toFact.mono _ _ _
      | exact laws_toSubstitution.mono _ _ _
      | exact spec_ApplyToFact.mono _ _ _ _ _
      | exact LeO.none _
      | refine LeO.ite ?_ ?_
      | refine LeO.bind ?_ (fun _ => ?_)
theorem laws_FnExactApplyToFact.mono : ∀ a0 a1 a2 a3 k, LeO (laws_FnExactApplyToFact.f k a0 a1 a2 a3) (laws_FnExactApplyToFact.f (k + 1) a0 a1 a2 a3) := by
  intro a0 a1 a2 a3 k
  have ih0 := laws_FnExactApplyToFact.mono_l k
  unfold laws_FnExactApplyToFact.f
  repeat' first
      | (with_reducible exact ih0 _ _ _ _ _ _ _ _ _)
      | (with_reducible exact impl_ApplyToFact.mono _ _ _ _ _)
      | (with_reducible exact laws_eqFact.mono _ _ _ _ _)
      | (with_reducible exact laws_eqSubstitution.mono _ _ _ _ _)
      | (with_reducible exact laws_heldFact.mono _ _ _ _)
      | (with_reducible exact laws_markFact.mono _ _ _ _)
      | (with_reducible exact laws_markSubstitution.mono _ _ _ _)
      | (with_reducible exact laws_toFact.mono _ _ _)
      | (with_reducible exact laws_toSubstitution.mono _ _ _)
      | (with_reducible exact spec_ApplyToFact.mono _ _ _ _ _)
      | (with_reducible exact LeO.refl _)
      | (with_reducible exact LeO.none _)
      | (with_reducible refine LeO.ite ?_ ?_)
      | (with_reducible refine LeO.bind ?_ (fun _ => ?_))
      | exact ih0 _ _ _ _ _ _ _ _ _
      | exact impl_ApplyToFact.mono _ _ _ _ _
      | exact laws_eqFact.mono _ _ _ _ _
      | exact laws_eqSubstitution.mono _ _ _ _ _
      | exact laws_heldFact.mono _ _ _ _
      | exact laws_markFact.mono _ _ _ _
      | exact laws_markSubstitution.mono _ _ _ _
      | exact laws_toFact.mono _ _ _
      | exact laws_toSubstitution.mono _ _ _
      | exact spec_ApplyToFact.mono _ _ _ _ _
      | exact LeO.none _
      | refine LeO.ite ?_ ?_
      | refine LeO.bind ?_ (fun _ => ?_)
set_option maxHeartbeats 8000000 in
set_option maxRecDepth 100000 in
theorem laws_FnExactApplyToFact.calls (k : Nat) (A0_0 : Option Addr) (c0_0 : Nat) (l0_0 : List Int) (A0_1 : Option Addr) (c0_1 : Nat) (l0_1 : List Int) (a1_0 : Int) (A1_1 : Option Addr) (c1_1 : Nat) (l1_1 : List Int) (w : World) (hr0_0 : Kd.C (Kd.int .i64) w A0_0 l0_0.length l0_0) (hc0_0 : l0_0.length ≤ c0_0) (hr0_1 : Kd.C (Kd.int .i64) w A0_1 l0_1.length l0_1) (hc0_1 : l0_1.length ≤ c0_1) (hr1_1 : Kd.C (Kd.int .i64) w A1_1 l1_1.length l1_1) (hc1_1 : l1_1.length ≤ c1_1) (h : laws_FnExactApplyToFact.f k l0_0 l0_1 a1_0 l1_1 = some true) :
    Calls Try.prog 11 #[.agg #[.slice A0_0 l0_0.length c0_0, .slice A0_1 l0_1.length c0_1], .agg #[.int .i64 a1_0, .slice A1_1 l1_1.length c1_1]] w fun e w' => e = .returned (.bool true) ∧ Below w.heap.size w w' := by
  have hu36 := Try.underlying36
  have hu47 := Try.underlying47
  have hu50 := Try.underlying50
  have hu39 := Try.underlying39
  have HR0_0 := Aside0.mk hr0_0
  have HC0_0 := Aside0.mk hc0_0
  clear hr0_0 hc0_0
  have HR0_1 := Aside0.mk hr0_1
  have HC0_1 := Aside0.mk hc0_1
  clear hr0_1 hc0_1
  have HR1_1 := Aside0.mk hr1_1
  have HC1_1 := Aside0.mk hc1_1
  clear hr1_1 hc1_1
  have HB := Aside0.mk (Below.refl w.heap.size w)
  have H : ((laws_szSubstitution.f l0_0 l0_1 1048576).bind fun t209 => (if t209 < 0 then (some true) else ((laws_szFact.f a1_0 l1_1 t209).bind fun t210 => (if t210 < 0 then (some true) else ((laws_toSubstitution.f k l0_0 l0_1).bind fun bt211 => ((laws_toFact.f k a1_0 l1_1).bind fun bt217 => ((spec_ApplyToFact.f k bt211.1 bt211.2 bt217.1 bt217.2).bind fun bt221 => ((laws_toSubstitution.f k l0_0 l0_1).bind fun bt226 => ((laws_toFact.f k a1_0 l1_1).bind fun bt233 => ((impl_ApplyToFact.f k bt226.1 bt226.2 bt233.1 bt233.2).bind fun bt238 => ((laws_eqFact.f k bt238.1 bt238.2 bt221.1 bt221.2).bind fun t243 => (if t243 = true then ((laws_toSubstitution.f k l0_0 l0_1).bind fun bt244 => ((laws_eqSubstitution.f k bt226.1 bt226.2 bt244.1 bt244.2).bind fun t250 => (if t250 = true then ((laws_toFact.f k a1_0 l1_1).bind fun bt251 => ((laws_eqFact.f k bt233.1 bt233.2 bt251.1 bt251.2).bind fun t255 => (if t255 = true then ((laws_markSubstitution.f k bt226.1 bt226.2 1).bind fun bt256 => ((laws_markFact.f k bt233.1 bt233.2 bt256.1).bind fun bt259 => (if bt259.1 < 0 then (laws_FnExactApplyToFact.j0 k true l0_0 l0_1 a1_0 l1_1 bt221.1 bt221.2 bt238.1 bt238.2) else ((laws_eqFact.f k bt238.1 bt238.2 bt221.1 bt221.2).bind fun t261 => (laws_FnExactApplyToFact.j0 k (!t261) l0_0 l0_1 a1_0 l1_1 bt221.1 bt221.2 bt238.1 bt238.2))))) else (some false)))) else (some false)))) else (some false))))))))))))) = some true := h
  clear h
  replace H := Option.bind_eq_some_iff.mp H
  obtain ⟨t209, A30, H⟩ := H
  replace H : (if t209 < 0 then (some true) else ((laws_szFact.f a1_0 l1_1 t209).bind fun t210 => (if t210 < 0 then (some true) else ((laws_toSubstitution.f k l0_0 l0_1).bind fun bt211 => ((laws_toFact.f k a1_0 l1_1).bind fun bt217 => ((spec_ApplyToFact.f k bt211.1 bt211.2 bt217.1 bt217.2).bind fun bt221 => ((laws_toSubstitution.f k l0_0 l0_1).bind fun bt226 => ((laws_toFact.f k a1_0 l1_1).bind fun bt233 => ((impl_ApplyToFact.f k bt226.1 bt226.2 bt233.1 bt233.2).bind fun bt238 => ((laws_eqFact.f k bt238.1 bt238.2 bt221.1 bt221.2).bind fun t243 => (if t243 = true then ((laws_toSubstitution.f k l0_0 l0_1).bind fun bt244 => ((laws_eqSubstitution.f k bt226.1 bt226.2 bt244.1 bt244.2).bind fun t250 => (if t250 = true then ((laws_toFact.f k a1_0 l1_1).bind fun bt251 => ((laws_eqFact.f k bt233.1 bt233.2 bt251.1 bt251.2).bind fun t255 => (if t255 = true then ((laws_markSubstitution.f k bt226.1 bt226.2 1).bind fun bt256 => ((laws_markFact.f k bt233.1 bt233.2 bt256.1).bind fun bt259 => (if bt259.1 < 0 then (laws_FnExactApplyToFact.j0 k true l0_0 l0_1 a1_0 l1_1 bt221.1 bt221.2 bt238.1 bt238.2) else ((laws_eqFact.f k bt238.1 bt238.2 bt221.1 bt221.2).bind fun t261 => (laws_FnExactApplyToFact.j0 k (!t261) l0_0 l0_1 a1_0 l1_1 bt221.1 bt221.2 bt238.1 bt238.2))))) else (some false)))) else (some false)))) else (some false)))))))))))) = some true := H
  have A3 := Aside0.mk A30
  clear A30
  by_cases c4 : t209 < 0
  · rw [if_pos c4] at H
    have c4b0 : decide (t209 < 0) = true := decide_eq_true c4
    clear c4
    clear H
    go_enter Try.func11, Try.ntmps11
    go_wp2_with (first | ((with_reducible refine gate_dst (N := 2) rfl ?_); refine box_event ?hg (N := 2) ?hd (cs := #[.slice A0_0 l0_0.length c0_0, .slice A0_1 l0_1.length c0_1]) (t := 36) ?hr ?_; (case hd => rfl); (case hg => rfl); (case hr => first | (go_simp; done) | (go_simp; rfl)); intro gb207 hg w5 hbox hb; have BK207 := zm (hbox); have GW207 := zm ((by rw [hg]; exact (below_size zl) : w.heap.size ≤ gb207)); have GE207 := zm ((by rw [hg]; exact (below_size zl) : w.heap.size ≤ gb207)); replace HB := zm (below_step zl hb); clear hb hbox hg) | ((with_reducible refine gate_dst (N := 3) rfl ?_); refine box_event ?hg (N := 3) ?hd (cs := #[.int .i64 a1_0, .slice A1_1 l1_1.length c1_1]) (t := 47) ?hr ?_; (case hd => rfl); (case hg => rfl); (case hr => first | (go_simp; done) | (go_simp; rfl)); intro gb208 hg w6 hbox hb; have BK208 := zm (hbox); have GW208 := zm ((by rw [hg]; exact (below_size zl) : w.heap.size ≤ gb208)); have GE208 := zm ((by rw [hg]; exact (below_size zl) : w.heap.size ≤ gb208)); replace HB := zm (below_step zl hb); have NB207_208 := zm ((by rw [hg]; exact Nat.ne_of_lt (blk_lt (zb BK207.out)) : gb207 ≠ gb208)); have NB208_207 := zm ((by rw [hg]; exact Nat.ne_of_gt (blk_lt (zb BK207.out)) : gb208 ≠ gb207)); replace BK207 := zm (blk_below (zb BK207.out) hb); clear hb hbox hg; have hnb7 := NB207_208.out; have hnc7 := NB208_207.out; have hcz8_0 : w6.cell? ⟨gb207, 0, none⟩ = some (.slice A0_0 l0_0.length c0_0) := (blk_cell BK207.out 0).trans rfl; have hcz8_1 : w6.cell? ⟨gb207, 1, none⟩ = some (.slice A0_1 l0_1.length c0_1) := (blk_cell BK207.out 1).trans rfl; have hfz8_0 := blk_frozen BK207.out 0; have hfz8_1 := blk_frozen BK207.out 1) | ((with_reducible refine gate_callee (f := 21) rfl ?_); refine zg (some 16) Try.func21 #[.agg #[.slice A0_0 l0_0.length c0_0, .slice A0_1 l0_1.length c0_1], .int .i64 1048576] ?_; (with_reducible refine (laws_szSubstitution.calls _ _ l0_0 _ _ l0_1 1048576 t209 _ ?side1 ?side2 ?side3 ?side4 A3.out).mono ?_); (case side1 => exact zc HR0_0.out); (case side2 => exact HC0_0.out); (case side3 => exact zc HR0_1.out); (case side4 => exact HC0_1.out); rintro e w9 ⟨rfl, hb⟩; refine ⟨_, rfl, ?_⟩; replace BK207 := zm (blk_below (zb BK207.out) hb); replace BK208 := zm (blk_below (zb BK208.out) hb); replace HB := zm (below_step zl hb); (try clear hb); (try clear hb2); (try clear hk); (try clear hi)))
    go_ret
    exact ⟨by first | rfl | (simp [errW_none, errW_some] <;> rfl) | (simp [*, errW_none, errW_some] <;> rfl), by repeat (first | (with_reducible first | exact HB.out | apply below_alloc | apply pw_below_drewN | apply below_drew1 | refine below_set ?_ GE207.out | refine below_set ?_ GE208.out) | exact HB.out)⟩
  · rw [if_neg c4] at H
    have c4b0 : decide (t209 < 0) = false := decide_eq_false c4
    clear c4
    replace H := Option.bind_eq_some_iff.mp H
    obtain ⟨t210, A100, H⟩ := H
    replace H : (if t210 < 0 then (some true) else ((laws_toSubstitution.f k l0_0 l0_1).bind fun bt211 => ((laws_toFact.f k a1_0 l1_1).bind fun bt217 => ((spec_ApplyToFact.f k bt211.1 bt211.2 bt217.1 bt217.2).bind fun bt221 => ((laws_toSubstitution.f k l0_0 l0_1).bind fun bt226 => ((laws_toFact.f k a1_0 l1_1).bind fun bt233 => ((impl_ApplyToFact.f k bt226.1 bt226.2 bt233.1 bt233.2).bind fun bt238 => ((laws_eqFact.f k bt238.1 bt238.2 bt221.1 bt221.2).bind fun t243 => (if t243 = true then ((laws_toSubstitution.f k l0_0 l0_1).bind fun bt244 => ((laws_eqSubstitution.f k bt226.1 bt226.2 bt244.1 bt244.2).bind fun t250 => (if t250 = true then ((laws_toFact.f k a1_0 l1_1).bind fun bt251 => ((laws_eqFact.f k bt233.1 bt233.2 bt251.1 bt251.2).bind fun t255 => (if t255 = true then ((laws_markSubstitution.f k bt226.1 bt226.2 1).bind fun bt256 => ((laws_markFact.f k bt233.1 bt233.2 bt256.1).bind fun bt259 => (if bt259.1 < 0 then (laws_FnExactApplyToFact.j0 k true l0_0 l0_1 a1_0 l1_1 bt221.1 bt221.2 bt238.1 bt238.2) else ((laws_eqFact.f k bt238.1 bt238.2 bt221.1 bt221.2).bind fun t261 => (laws_FnExactApplyToFact.j0 k (!t261) l0_0 l0_1 a1_0 l1_1 bt221.1 bt221.2 bt238.1 bt238.2))))) else (some false)))) else (some false)))) else (some false)))))))))) = some true := H
    have A10 := Aside0.mk A100
    clear A100
    by_cases c11 : t210 < 0
    · rw [if_pos c11] at H
      have c11b0 : decide (t210 < 0) = true := decide_eq_true c11
      clear c11
      clear H
      go_enter Try.func11, Try.ntmps11
      go_wp2_with (first | ((with_reducible refine gate_dst (N := 2) rfl ?_); refine box_event ?hg (N := 2) ?hd (cs := #[.slice A0_0 l0_0.length c0_0, .slice A0_1 l0_1.length c0_1]) (t := 36) ?hr ?_; (case hd => rfl); (case hg => rfl); (case hr => first | (go_simp; done) | (go_simp; rfl)); intro gb207 hg w12 hbox hb; have BK207 := zm (hbox); have GW207 := zm ((by rw [hg]; exact (below_size zl) : w.heap.size ≤ gb207)); have GE207 := zm ((by rw [hg]; exact (below_size zl) : w.heap.size ≤ gb207)); replace HB := zm (below_step zl hb); clear hb hbox hg) | ((with_reducible refine gate_dst (N := 3) rfl ?_); refine box_event ?hg (N := 3) ?hd (cs := #[.int .i64 a1_0, .slice A1_1 l1_1.length c1_1]) (t := 47) ?hr ?_; (case hd => rfl); (case hg => rfl); (case hr => first | (go_simp; done) | (go_simp; rfl)); intro gb208 hg w13 hbox hb; have BK208 := zm (hbox); have GW208 := zm ((by rw [hg]; exact (below_size zl) : w.heap.size ≤ gb208)); have GE208 := zm ((by rw [hg]; exact (below_size zl) : w.heap.size ≤ gb208)); replace HB := zm (below_step zl hb); have NB207_208 := zm ((by rw [hg]; exact Nat.ne_of_lt (blk_lt (zb BK207.out)) : gb207 ≠ gb208)); have NB208_207 := zm ((by rw [hg]; exact Nat.ne_of_gt (blk_lt (zb BK207.out)) : gb208 ≠ gb207)); replace BK207 := zm (blk_below (zb BK207.out) hb); clear hb hbox hg; have hnb14 := NB207_208.out; have hnc14 := NB208_207.out; have hcz15_0 : w13.cell? ⟨gb207, 0, none⟩ = some (.slice A0_0 l0_0.length c0_0) := (blk_cell BK207.out 0).trans rfl; have hcz15_1 : w13.cell? ⟨gb207, 1, none⟩ = some (.slice A0_1 l0_1.length c0_1) := (blk_cell BK207.out 1).trans rfl; have hfz15_0 := blk_frozen BK207.out 0; have hfz15_1 := blk_frozen BK207.out 1) | ((with_reducible refine gate_callee (f := 21) rfl ?_); refine zg (some 16) Try.func21 #[.agg #[.slice A0_0 l0_0.length c0_0, .slice A0_1 l0_1.length c0_1], .int .i64 1048576] ?_; (with_reducible refine (laws_szSubstitution.calls _ _ l0_0 _ _ l0_1 1048576 t209 _ ?side1 ?side2 ?side3 ?side4 A3.out).mono ?_); (case side1 => exact zc HR0_0.out); (case side2 => exact HC0_0.out); (case side3 => exact zc HR0_1.out); (case side4 => exact HC0_1.out); rintro e w16 ⟨rfl, hb⟩; refine ⟨_, rfl, ?_⟩; replace BK207 := zm (blk_below (zb BK207.out) hb); replace BK208 := zm (blk_below (zb BK208.out) hb); replace HB := zm (below_step zl hb); (try clear hb); (try clear hb2); (try clear hk); (try clear hi); have hcz17_0 : w16.cell? ⟨gb208, 0, none⟩ = some (.int .i64 a1_0) := (blk_cell BK208.out 0).trans rfl; have hcz17_1 : w16.cell? ⟨gb208, 1, none⟩ = some (.slice A1_1 l1_1.length c1_1) := (blk_cell BK208.out 1).trans rfl; have hfz17_0 := blk_frozen BK208.out 0; have hfz17_1 := blk_frozen BK208.out 1) | ((with_reducible refine gate_callee (f := 30) rfl ?_); refine zg (some 21) Try.func30 #[.agg #[.int .i64 a1_0, .slice A1_1 l1_1.length c1_1], .int .i64 t209] ?_; (with_reducible refine (laws_szFact.calls a1_0 _ _ l1_1 t209 t210 _ ?side1 ?side2 A10.out).mono ?_); (case side1 => exact zc HR1_1.out); (case side2 => exact HC1_1.out); rintro e w18 ⟨rfl, hb⟩; refine ⟨_, rfl, ?_⟩; replace BK207 := zm (blk_below (zb BK207.out) hb); replace BK208 := zm (blk_below (zb BK208.out) hb); replace HB := zm (below_step zl hb); (try clear hb); (try clear hb2); (try clear hk); (try clear hi)))
      go_ret
      exact ⟨by first | rfl | (simp [errW_none, errW_some] <;> rfl) | (simp [*, errW_none, errW_some] <;> rfl), by repeat (first | (with_reducible first | exact HB.out | apply below_alloc | apply pw_below_drewN | apply below_drew1 | refine below_set ?_ GE207.out | refine below_set ?_ GE208.out) | exact HB.out)⟩
    · rw [if_neg c11] at H
      have c11b0 : decide (t210 < 0) = false := decide_eq_false c11
      clear c11
      replace H := Option.bind_eq_some_iff.mp H
      obtain ⟨⟨t211, t214⟩, A190, H⟩ := H
      replace H : ((laws_toFact.f k a1_0 l1_1).bind fun bt217 => ((spec_ApplyToFact.f k t211 t214 bt217.1 bt217.2).bind fun bt221 => ((laws_toSubstitution.f k l0_0 l0_1).bind fun bt226 => ((laws_toFact.f k a1_0 l1_1).bind fun bt233 => ((impl_ApplyToFact.f k bt226.1 bt226.2 bt233.1 bt233.2).bind fun bt238 => ((laws_eqFact.f k bt238.1 bt238.2 bt221.1 bt221.2).bind fun t243 => (if t243 = true then ((laws_toSubstitution.f k l0_0 l0_1).bind fun bt244 => ((laws_eqSubstitution.f k bt226.1 bt226.2 bt244.1 bt244.2).bind fun t250 => (if t250 = true then ((laws_toFact.f k a1_0 l1_1).bind fun bt251 => ((laws_eqFact.f k bt233.1 bt233.2 bt251.1 bt251.2).bind fun t255 => (if t255 = true then ((laws_markSubstitution.f k bt226.1 bt226.2 1).bind fun bt256 => ((laws_markFact.f k bt233.1 bt233.2 bt256.1).bind fun bt259 => (if bt259.1 < 0 then (laws_FnExactApplyToFact.j0 k true l0_0 l0_1 a1_0 l1_1 bt221.1 bt221.2 bt238.1 bt238.2) else ((laws_eqFact.f k bt238.1 bt238.2 bt221.1 bt221.2).bind fun t261 => (laws_FnExactApplyToFact.j0 k (!t261) l0_0 l0_1 a1_0 l1_1 bt221.1 bt221.2 bt238.1 bt238.2))))) else (some false)))) else (some false)))) else (some false)))))))) = some true := H
      have A19 := Aside0.mk A190
      clear A190
      replace H := Option.bind_eq_some_iff.mp H
      obtain ⟨⟨t217, t218⟩, A200, H⟩ := H
      replace H : ((spec_ApplyToFact.f k t211 t214 t217 t218).bind fun bt221 => ((laws_toSubstitution.f k l0_0 l0_1).bind fun bt226 => ((laws_toFact.f k a1_0 l1_1).bind fun bt233 => ((impl_ApplyToFact.f k bt226.1 bt226.2 bt233.1 bt233.2).bind fun bt238 => ((laws_eqFact.f k bt238.1 bt238.2 bt221.1 bt221.2).bind fun t243 => (if t243 = true then ((laws_toSubstitution.f k l0_0 l0_1).bind fun bt244 => ((laws_eqSubstitution.f k bt226.1 bt226.2 bt244.1 bt244.2).bind fun t250 => (if t250 = true then ((laws_toFact.f k a1_0 l1_1).bind fun bt251 => ((laws_eqFact.f k bt233.1 bt233.2 bt251.1 bt251.2).bind fun t255 => (if t255 = true then ((laws_markSubstitution.f k bt226.1 bt226.2 1).bind fun bt256 => ((laws_markFact.f k bt233.1 bt233.2 bt256.1).bind fun bt259 => (if bt259.1 < 0 then (laws_FnExactApplyToFact.j0 k true l0_0 l0_1 a1_0 l1_1 bt221.1 bt221.2 bt238.1 bt238.2) else ((laws_eqFact.f k bt238.1 bt238.2 bt221.1 bt221.2).bind fun t261 => (laws_FnExactApplyToFact.j0 k (!t261) l0_0 l0_1 a1_0 l1_1 bt221.1 bt221.2 bt238.1 bt238.2))))) else (some false)))) else (some false)))) else (some false))))))) = some true := H
      have A20 := Aside0.mk A200
      clear A200
      replace H := Option.bind_eq_some_iff.mp H
      obtain ⟨⟨t221, t222⟩, A210, H⟩ := H
      replace H : ((laws_toSubstitution.f k l0_0 l0_1).bind fun bt226 => ((laws_toFact.f k a1_0 l1_1).bind fun bt233 => ((impl_ApplyToFact.f k bt226.1 bt226.2 bt233.1 bt233.2).bind fun bt238 => ((laws_eqFact.f k bt238.1 bt238.2 t221 t222).bind fun t243 => (if t243 = true then ((laws_toSubstitution.f k l0_0 l0_1).bind fun bt244 => ((laws_eqSubstitution.f k bt226.1 bt226.2 bt244.1 bt244.2).bind fun t250 => (if t250 = true then ((laws_toFact.f k a1_0 l1_1).bind fun bt251 => ((laws_eqFact.f k bt233.1 bt233.2 bt251.1 bt251.2).bind fun t255 => (if t255 = true then ((laws_markSubstitution.f k bt226.1 bt226.2 1).bind fun bt256 => ((laws_markFact.f k bt233.1 bt233.2 bt256.1).bind fun bt259 => (if bt259.1 < 0 then (laws_FnExactApplyToFact.j0 k true l0_0 l0_1 a1_0 l1_1 t221 t222 bt238.1 bt238.2) else ((laws_eqFact.f k bt238.1 bt238.2 t221 t222).bind fun t261 => (laws_FnExactApplyToFact.j0 k (!t261) l0_0 l0_1 a1_0 l1_1 t221 t222 bt238.1 bt238.2))))) else (some false)))) else (some false)))) else (some false)))))) = some true := H
      have A21 := Aside0.mk A210
      clear A210
      replace H := Option.bind_eq_some_iff.mp H
      obtain ⟨⟨t226, t229⟩, A220, H⟩ := H
      replace H : ((laws_toFact.f k a1_0 l1_1).bind fun bt233 => ((impl_ApplyToFact.f k t226 t229 bt233.1 bt233.2).bind fun bt238 => ((laws_eqFact.f k bt238.1 bt238.2 t221 t222).bind fun t243 => (if t243 = true then ((laws_toSubstitution.f k l0_0 l0_1).bind fun bt244 => ((laws_eqSubstitution.f k t226 t229 bt244.1 bt244.2).bind fun t250 => (if t250 = true then ((laws_toFact.f k a1_0 l1_1).bind fun bt251 => ((laws_eqFact.f k bt233.1 bt233.2 bt251.1 bt251.2).bind fun t255 => (if t255 = true then ((laws_markSubstitution.f k t226 t229 1).bind fun bt256 => ((laws_markFact.f k bt233.1 bt233.2 bt256.1).bind fun bt259 => (if bt259.1 < 0 then (laws_FnExactApplyToFact.j0 k true l0_0 l0_1 a1_0 l1_1 t221 t222 bt238.1 bt238.2) else ((laws_eqFact.f k bt238.1 bt238.2 t221 t222).bind fun t261 => (laws_FnExactApplyToFact.j0 k (!t261) l0_0 l0_1 a1_0 l1_1 t221 t222 bt238.1 bt238.2))))) else (some false)))) else (some false)))) else (some false))))) = some true := H
      have A22 := Aside0.mk A220
      clear A220
      replace H := Option.bind_eq_some_iff.mp H
      obtain ⟨⟨t233, t234⟩, A230, H⟩ := H
      replace H : ((impl_ApplyToFact.f k t226 t229 t233 t234).bind fun bt238 => ((laws_eqFact.f k bt238.1 bt238.2 t221 t222).bind fun t243 => (if t243 = true then ((laws_toSubstitution.f k l0_0 l0_1).bind fun bt244 => ((laws_eqSubstitution.f k t226 t229 bt244.1 bt244.2).bind fun t250 => (if t250 = true then ((laws_toFact.f k a1_0 l1_1).bind fun bt251 => ((laws_eqFact.f k t233 t234 bt251.1 bt251.2).bind fun t255 => (if t255 = true then ((laws_markSubstitution.f k t226 t229 1).bind fun bt256 => ((laws_markFact.f k t233 t234 bt256.1).bind fun bt259 => (if bt259.1 < 0 then (laws_FnExactApplyToFact.j0 k true l0_0 l0_1 a1_0 l1_1 t221 t222 bt238.1 bt238.2) else ((laws_eqFact.f k bt238.1 bt238.2 t221 t222).bind fun t261 => (laws_FnExactApplyToFact.j0 k (!t261) l0_0 l0_1 a1_0 l1_1 t221 t222 bt238.1 bt238.2))))) else (some false)))) else (some false)))) else (some false)))) = some true := H
      have A23 := Aside0.mk A230
      clear A230
      replace H := Option.bind_eq_some_iff.mp H
      obtain ⟨⟨t238, t239⟩, A240, H⟩ := H
      replace H : ((laws_eqFact.f k t238 t239 t221 t222).bind fun t243 => (if t243 = true then ((laws_toSubstitution.f k l0_0 l0_1).bind fun bt244 => ((laws_eqSubstitution.f k t226 t229 bt244.1 bt244.2).bind fun t250 => (if t250 = true then ((laws_toFact.f k a1_0 l1_1).bind fun bt251 => ((laws_eqFact.f k t233 t234 bt251.1 bt251.2).bind fun t255 => (if t255 = true then ((laws_markSubstitution.f k t226 t229 1).bind fun bt256 => ((laws_markFact.f k t233 t234 bt256.1).bind fun bt259 => (if bt259.1 < 0 then (laws_FnExactApplyToFact.j0 k true l0_0 l0_1 a1_0 l1_1 t221 t222 t238 t239) else ((laws_eqFact.f k t238 t239 t221 t222).bind fun t261 => (laws_FnExactApplyToFact.j0 k (!t261) l0_0 l0_1 a1_0 l1_1 t221 t222 t238 t239))))) else (some false)))) else (some false)))) else (some false))) = some true := H
      have A24 := Aside0.mk A240
      clear A240
      replace H := Option.bind_eq_some_iff.mp H
      obtain ⟨t243, A250, H⟩ := H
      replace H : (if t243 = true then ((laws_toSubstitution.f k l0_0 l0_1).bind fun bt244 => ((laws_eqSubstitution.f k t226 t229 bt244.1 bt244.2).bind fun t250 => (if t250 = true then ((laws_toFact.f k a1_0 l1_1).bind fun bt251 => ((laws_eqFact.f k t233 t234 bt251.1 bt251.2).bind fun t255 => (if t255 = true then ((laws_markSubstitution.f k t226 t229 1).bind fun bt256 => ((laws_markFact.f k t233 t234 bt256.1).bind fun bt259 => (if bt259.1 < 0 then (laws_FnExactApplyToFact.j0 k true l0_0 l0_1 a1_0 l1_1 t221 t222 t238 t239) else ((laws_eqFact.f k t238 t239 t221 t222).bind fun t261 => (laws_FnExactApplyToFact.j0 k (!t261) l0_0 l0_1 a1_0 l1_1 t221 t222 t238 t239))))) else (some false)))) else (some false)))) else (some false)) = some true := H
      have A25 := Aside0.mk A250
      clear A250
      by_cases c26 : t243 = true
      · subst c26
        have H1 : ((laws_toSubstitution.f k l0_0 l0_1).bind fun bt244 => ((laws_eqSubstitution.f k t226 t229 bt244.1 bt244.2).bind fun t250 => (if t250 = true then ((laws_toFact.f k a1_0 l1_1).bind fun bt251 => ((laws_eqFact.f k t233 t234 bt251.1 bt251.2).bind fun t255 => (if t255 = true then ((laws_markSubstitution.f k t226 t229 1).bind fun bt256 => ((laws_markFact.f k t233 t234 bt256.1).bind fun bt259 => (if bt259.1 < 0 then (laws_FnExactApplyToFact.j0 k true l0_0 l0_1 a1_0 l1_1 t221 t222 t238 t239) else ((laws_eqFact.f k t238 t239 t221 t222).bind fun t261 => (laws_FnExactApplyToFact.j0 k (!t261) l0_0 l0_1 a1_0 l1_1 t221 t222 t238 t239))))) else (some false)))) else (some false)))) = some true := by first | with_reducible rfl | (rw [if_pos rfl] at H; exact H)
        clear H
        have H := H1
        clear H1
        replace H := Option.bind_eq_some_iff.mp H
        obtain ⟨⟨t244, t247⟩, A270, H⟩ := H
        replace H : ((laws_eqSubstitution.f k t226 t229 t244 t247).bind fun t250 => (if t250 = true then ((laws_toFact.f k a1_0 l1_1).bind fun bt251 => ((laws_eqFact.f k t233 t234 bt251.1 bt251.2).bind fun t255 => (if t255 = true then ((laws_markSubstitution.f k t226 t229 1).bind fun bt256 => ((laws_markFact.f k t233 t234 bt256.1).bind fun bt259 => (if bt259.1 < 0 then (laws_FnExactApplyToFact.j0 k true l0_0 l0_1 a1_0 l1_1 t221 t222 t238 t239) else ((laws_eqFact.f k t238 t239 t221 t222).bind fun t261 => (laws_FnExactApplyToFact.j0 k (!t261) l0_0 l0_1 a1_0 l1_1 t221 t222 t238 t239))))) else (some false)))) else (some false))) = some true := H
        have A27 := Aside0.mk A270
        clear A270
        replace H := Option.bind_eq_some_iff.mp H
        obtain ⟨t250, A280, H⟩ := H
        replace H : (if t250 = true then ((laws_toFact.f k a1_0 l1_1).bind fun bt251 => ((laws_eqFact.f k t233 t234 bt251.1 bt251.2).bind fun t255 => (if t255 = true then ((laws_markSubstitution.f k t226 t229 1).bind fun bt256 => ((laws_markFact.f k t233 t234 bt256.1).bind fun bt259 => (if bt259.1 < 0 then (laws_FnExactApplyToFact.j0 k true l0_0 l0_1 a1_0 l1_1 t221 t222 t238 t239) else ((laws_eqFact.f k t238 t239 t221 t222).bind fun t261 => (laws_FnExactApplyToFact.j0 k (!t261) l0_0 l0_1 a1_0 l1_1 t221 t222 t238 t239))))) else (some false)))) else (some false)) = some true := H
        have A28 := Aside0.mk A280
        clear A280
        by_cases c29 : t250 = true
        · subst c29
          have H1 : ((laws_toFact.f k a1_0 l1_1).bind fun bt251 => ((laws_eqFact.f k t233 t234 bt251.1 bt251.2).bind fun t255 => (if t255 = true then ((laws_markSubstitution.f k t226 t229 1).bind fun bt256 => ((laws_markFact.f k t233 t234 bt256.1).bind fun bt259 => (if bt259.1 < 0 then (laws_FnExactApplyToFact.j0 k true l0_0 l0_1 a1_0 l1_1 t221 t222 t238 t239) else ((laws_eqFact.f k t238 t239 t221 t222).bind fun t261 => (laws_FnExactApplyToFact.j0 k (!t261) l0_0 l0_1 a1_0 l1_1 t221 t222 t238 t239))))) else (some false)))) = some true := by first | with_reducible rfl | (rw [if_pos rfl] at H; exact H)
          clear H
          have H := H1
          clear H1
          replace H := Option.bind_eq_some_iff.mp H
          obtain ⟨⟨t251, t252⟩, A300, H⟩ := H
          replace H : ((laws_eqFact.f k t233 t234 t251 t252).bind fun t255 => (if t255 = true then ((laws_markSubstitution.f k t226 t229 1).bind fun bt256 => ((laws_markFact.f k t233 t234 bt256.1).bind fun bt259 => (if bt259.1 < 0 then (laws_FnExactApplyToFact.j0 k true l0_0 l0_1 a1_0 l1_1 t221 t222 t238 t239) else ((laws_eqFact.f k t238 t239 t221 t222).bind fun t261 => (laws_FnExactApplyToFact.j0 k (!t261) l0_0 l0_1 a1_0 l1_1 t221 t222 t238 t239))))) else (some false))) = some true := H
          have A30 := Aside0.mk A300
          clear A300
          replace H := Option.bind_eq_some_iff.mp H
          obtain ⟨t255, A310, H⟩ := H
          replace H : (if t255 = true then ((laws_markSubstitution.f k t226 t229 1).bind fun bt256 => ((laws_markFact.f k t233 t234 bt256.1).bind fun bt259 => (if bt259.1 < 0 then (laws_FnExactApplyToFact.j0 k true l0_0 l0_1 a1_0 l1_1 t221 t222 t238 t239) else ((laws_eqFact.f k t238 t239 t221 t222).bind fun t261 => (laws_FnExactApplyToFact.j0 k (!t261) l0_0 l0_1 a1_0 l1_1 t221 t222 t238 t239))))) else (some false)) = some true := H
          have A31 := Aside0.mk A310
          clear A310
          by_cases c32 : t255 = true
          · subst c32
            have H1 : ((laws_markSubstitution.f k t226 t229 1).bind fun bt256 => ((laws_markFact.f k t233 t234 bt256.1).bind fun bt259 => (if bt259.1 < 0 then (laws_FnExactApplyToFact.j0 k true l0_0 l0_1 a1_0 l1_1 t221 t222 t238 t239) else ((laws_eqFact.f k t238 t239 t221 t222).bind fun t261 => (laws_FnExactApplyToFact.j0 k (!t261) l0_0 l0_1 a1_0 l1_1 t221 t222 t238 t239))))) = some true := by first | with_reducible rfl | (rw [if_pos rfl] at H; exact H)
            clear H
            have H := H1
            clear H1
            replace H := Option.bind_eq_some_iff.mp H
            obtain ⟨⟨t256, t257, t258⟩, A330, H⟩ := H
            replace H : ((laws_markFact.f k t233 t234 t256).bind fun bt259 => (if bt259.1 < 0 then (laws_FnExactApplyToFact.j0 k true l0_0 l0_1 a1_0 l1_1 t221 t222 t238 t239) else ((laws_eqFact.f k t238 t239 t221 t222).bind fun t261 => (laws_FnExactApplyToFact.j0 k (!t261) l0_0 l0_1 a1_0 l1_1 t221 t222 t238 t239)))) = some true := H
            have A33 := Aside0.mk A330
            clear A330
            replace H := Option.bind_eq_some_iff.mp H
            obtain ⟨⟨t259, t260⟩, A340, H⟩ := H
            replace H : (if t259 < 0 then (laws_FnExactApplyToFact.j0 k true l0_0 l0_1 a1_0 l1_1 t221 t222 t238 t239) else ((laws_eqFact.f k t238 t239 t221 t222).bind fun t261 => (laws_FnExactApplyToFact.j0 k (!t261) l0_0 l0_1 a1_0 l1_1 t221 t222 t238 t239))) = some true := H
            have A34 := Aside0.mk A340
            clear A340
            have HC35 := Aside0.mk H
            clear H
            go_enter Try.func11, Try.ntmps11
            try go_wp2_with (first | ((with_reducible refine gate_dst (N := 2) rfl ?_); refine box_event ?hg (N := 2) ?hd (cs := #[.slice A0_0 l0_0.length c0_0, .slice A0_1 l0_1.length c0_1]) (t := 36) ?hr ?_; (case hd => rfl); (case hg => rfl); (case hr => first | (go_simp; done) | (go_simp; rfl)); intro gb207 hg w36 hbox hb; have BK207 := zm (hbox); have GW207 := zm ((by rw [hg]; exact (below_size zl) : w.heap.size ≤ gb207)); have GE207 := zm ((by rw [hg]; exact (below_size zl) : w.heap.size ≤ gb207)); replace HB := zm (below_step zl hb); clear hb hbox hg) | ((with_reducible refine gate_dst (N := 3) rfl ?_); refine box_event ?hg (N := 3) ?hd (cs := #[.int .i64 a1_0, .slice A1_1 l1_1.length c1_1]) (t := 47) ?hr ?_; (case hd => rfl); (case hg => rfl); (case hr => first | (go_simp; done) | (go_simp; rfl)); intro gb208 hg w37 hbox hb; have BK208 := zm (hbox); have GW208 := zm ((by rw [hg]; exact (below_size zl) : w.heap.size ≤ gb208)); have GE208 := zm ((by rw [hg]; exact (below_size zl) : w.heap.size ≤ gb208)); replace HB := zm (below_step zl hb); have NB207_208 := zm ((by rw [hg]; exact Nat.ne_of_lt (blk_lt (zb BK207.out)) : gb207 ≠ gb208)); have NB208_207 := zm ((by rw [hg]; exact Nat.ne_of_gt (blk_lt (zb BK207.out)) : gb208 ≠ gb207)); replace BK207 := zm (blk_below (zb BK207.out) hb); clear hb hbox hg; have hnb38 := NB207_208.out; have hnc38 := NB208_207.out; have hcz39_0 : w37.cell? ⟨gb207, 0, none⟩ = some (.slice A0_0 l0_0.length c0_0) := (blk_cell BK207.out 0).trans rfl; have hcz39_1 : w37.cell? ⟨gb207, 1, none⟩ = some (.slice A0_1 l0_1.length c0_1) := (blk_cell BK207.out 1).trans rfl; have hfz39_0 := blk_frozen BK207.out 0; have hfz39_1 := blk_frozen BK207.out 1) | ((with_reducible refine gate_callee (f := 21) rfl ?_); refine zg (some 16) Try.func21 #[.agg #[.slice A0_0 l0_0.length c0_0, .slice A0_1 l0_1.length c0_1], .int .i64 1048576] ?_; (with_reducible refine (laws_szSubstitution.calls _ _ l0_0 _ _ l0_1 1048576 t209 _ ?side1 ?side2 ?side3 ?side4 A3.out).mono ?_); (case side1 => exact zc HR0_0.out); (case side2 => exact HC0_0.out); (case side3 => exact zc HR0_1.out); (case side4 => exact HC0_1.out); rintro e w40 ⟨rfl, hb⟩; refine ⟨_, rfl, ?_⟩; replace BK207 := zm (blk_below (zb BK207.out) hb); replace BK208 := zm (blk_below (zb BK208.out) hb); replace HB := zm (below_step zl hb); (try clear hb); (try clear hb2); (try clear hk); (try clear hi); have hcz41_0 : w40.cell? ⟨gb208, 0, none⟩ = some (.int .i64 a1_0) := (blk_cell BK208.out 0).trans rfl; have hcz41_1 : w40.cell? ⟨gb208, 1, none⟩ = some (.slice A1_1 l1_1.length c1_1) := (blk_cell BK208.out 1).trans rfl; have hfz41_0 := blk_frozen BK208.out 0; have hfz41_1 := blk_frozen BK208.out 1) | ((with_reducible refine gate_callee (f := 30) rfl ?_); refine zg (some 21) Try.func30 #[.agg #[.int .i64 a1_0, .slice A1_1 l1_1.length c1_1], .int .i64 t209] ?_; (with_reducible refine (laws_szFact.calls a1_0 _ _ l1_1 t209 t210 _ ?side1 ?side2 A10.out).mono ?_); (case side1 => exact zc HR1_1.out); (case side2 => exact HC1_1.out); rintro e w42 ⟨rfl, hb⟩; refine ⟨_, rfl, ?_⟩; replace BK207 := zm (blk_below (zb BK207.out) hb); replace BK208 := zm (blk_below (zb BK208.out) hb); replace HB := zm (below_step zl hb); (try clear hb); (try clear hb2); (try clear hk); (try clear hi)))
            replace BK207 := zm (blk_drew BK207.out)
            replace BK208 := zm (blk_drew BK208.out)
            replace HB := zm (below_drew1 HB.out)
            refine start_ (n := 7) (S := fun w' => w'.cell? ⟨gb207, 0, none⟩ = some (.slice A0_0 l0_0.length c0_0) ∧ w'.cell? ⟨gb207, 1, none⟩ = some (.slice A0_1 l0_1.length c0_1) ∧ w'.cell? ⟨gb208, 0, none⟩ = some (.int .i64 a1_0) ∧ w'.cell? ⟨gb208, 1, none⟩ = some (.slice A1_1 l1_1.length c1_1)) (ds := []) #[false, false, false, false, false, false, false] (by kernel_rfl) rfl rfl ⟨(blk_cell BK207.out 0).trans rfl, (blk_cell BK207.out 1).trans rfl, (blk_cell BK208.out 0).trans rfl, (blk_cell BK208.out 1).trans rfl⟩ (fun hHeld => ?_)
            generalize w42.drew = w43 at BK207 BK208 HB hHeld ⊢
            refine take_ (i := 0) (N := some 24) (v := ?_) (a' := ?_) #[true, false, false, false, false, false, false] rfl rfl (by kernel_rfl) (fun _ _ _ h => h) (Or.inl ⟨by rfl, ?_⟩) hHeld ?_ ?_
            rotate_left
            · rintro w' ⟨s0, s1, s2, s3⟩
              go_simp
              with_reducible rfl
            rotate_left
            · simp only [Act.put, List.setIfInBounds_toArray, List.set_cons_zero, List.set_cons_succ, i64_w, i32_w]
              rfl
            refine take_ (i := 2) (N := some 26) (v := ?_) (a' := ?_) #[true, false, true, false, false, false, false] rfl rfl (by kernel_rfl) (fun _ _ _ h => h) (Or.inl ⟨by rfl, ?_⟩) hHeld ?_ ?_
            rotate_left
            · rintro w' ⟨s0, s1, s2, s3⟩
              go_simp
              with_reducible rfl
            rotate_left
            · simp only [Act.put, List.setIfInBounds_toArray, List.set_cons_zero, List.set_cons_succ, i64_w, i32_w]
              rfl
            refine join_ (σ := Value × Value × Value × Value × Nat) 1 #[true, true, true, true, true, true, false] (fun s_ => [(25, .agg #[s_.1, s_.2.1]), (27, .agg #[.int .i64 t217, s_.2.2.1]), (28, .agg #[.int .i64 t221, s_.2.2.2.1]), (6, .pointer (some ⟨s_.2.2.2.2, 0, none⟩))]) (fun s_ w' => (w'.cell? ⟨gb207, 0, none⟩ = some (.slice A0_0 l0_0.length c0_0) ∧ w'.cell? ⟨gb207, 1, none⟩ = some (.slice A0_1 l0_1.length c0_1) ∧ w'.cell? ⟨gb208, 0, none⟩ = some (.int .i64 a1_0) ∧ w'.cell? ⟨gb208, 1, none⟩ = some (.slice A1_1 l1_1.length c1_1)) ∧ (Kd.R (Kd.int .i64) 3 w' w.heap.size (fun k_ => some k_ ≠ (s_.2.1 : Value).ownBlock ∧ some k_ ≠ (s_.2.2.1 : Value).ownBlock ∧ some k_ ≠ (s_.2.2.2.1 : Value).ownBlock) s_.1 t211) ∧ (Kd.R (Kd.int .i64) 3 w' w.heap.size (fun k_ => some k_ ≠ (s_.1 : Value).ownBlock ∧ some k_ ≠ (s_.2.2.1 : Value).ownBlock ∧ some k_ ≠ (s_.2.2.2.1 : Value).ownBlock) s_.2.1 t214) ∧ (Kd.R (Kd.int .i64) 3 w' w.heap.size (fun k_ => some k_ ≠ (s_.1 : Value).ownBlock ∧ some k_ ≠ (s_.2.1 : Value).ownBlock ∧ some k_ ≠ (s_.2.2.2.1 : Value).ownBlock) s_.2.2.1 t218) ∧ (Kd.R (Kd.int .i64) 3 w' w.heap.size (fun k_ => some k_ ≠ (s_.1 : Value).ownBlock ∧ some k_ ≠ (s_.2.1 : Value).ownBlock ∧ some k_ ≠ (s_.2.2.1 : Value).ownBlock) s_.2.2.2.1 t222) ∧ (w'.heap[gb207]? = some (.cells #[.slice A0_0 l0_0.length c0_0, .slice A0_1 l0_1.length c0_1] 36 (0, 0))) ∧ (w'.heap[gb208]? = some (.cells #[.int .i64 a1_0, .slice A1_1 l1_1.length c1_1] 47 (0, 0))) ∧ (w'.heap[s_.2.2.2.2]? = some (.cells #[.int .i64 0, .slice none 0 0] 50 (0, 0))) ∧ (w.heap.size ≤ s_.2.2.2.2) ∧ (w.heap.size ≤ s_.2.2.2.2) ∧ (gb207 ≠ s_.2.2.2.2) ∧ (s_.2.2.2.2 ≠ gb207) ∧ (gb208 ≠ s_.2.2.2.2) ∧ (s_.2.2.2.2 ≠ gb208) ∧ (Below w.heap.size w w')) ?_ ?_
            rotate_left
            · intro hCont
              refine two_ (i := 1) (j := 5) (Ni := some 25) (Nj := some 6) #[true, true, true, false, false, false, false] #[true, false, true, false, false, true, false] rfl rfl rfl rfl (by kernel_rfl) (by decide) (by decide) (fun K hK => ?_) (fun K hK => ?_)
              · skip
                refine goes_ Try.func23 (by kernel_rfl) rfl #[.agg #[.slice A0_0 l0_0.length c0_0, .slice A0_1 l0_1.length c0_1]] (by rfl) rfl rfl (by (try simp only [List.map_toArray, List.map_cons, List.map_nil]); first | done | rfl | (simp only [List.length_drop, List.length_take]; rfl)) ?_
                with_reducible refine (laws_toSubstitution.calls k _ _ l0_0 _ _ l0_1 t211 t214 _ ?side1 ?side2 ?side3 ?side4 A19.out).mono ?_
                (case side1 => exact zc HR0_0.out)
                (case side2 => exact HC0_0.out)
                (case side3 => exact zc HR0_1.out)
                (case side4 => exact HC0_1.out)
                rintro e w44 ⟨v212, v215, rfl, ho0, ho1, hb⟩
                refine ⟨_, rfl, ?_⟩
                have HO213 := zm (Kd.R_lower ho0 (below_size zl))
                have HO216 := zm (Kd.R_lower ho1 (below_size zl))
                replace BK207 := zm (blk_below (zb BK207.out) hb)
                replace BK208 := zm (blk_below (zb BK208.out) hb)
                replace HB := zm (below_step zl hb)
                (try clear hb)
                (try clear hb2)
                (try clear hk)
                (try clear hi)
                (try clear ho0)
                (try clear ho1)
                refine hK.out _ _ ⟨(blk_cell BK207.out 0).trans rfl, (blk_cell BK207.out 1).trans rfl, (blk_cell BK208.out 0).trans rfl, (blk_cell BK208.out 1).trans rfl⟩ (fun hHeld => ?_)
                clear hK K
                refine norm_ (a' := ?_) ?_ ?_
                rotate_left
                · show Act.put _ (some 25) _ = _
                  simp only [Act.put, List.setIfInBounds_toArray, List.set_cons_zero, List.set_cons_succ, i64_w, i32_w]
                  rfl
                refine two_ (i := 3) (j := 5) (Ni := some 27) (Nj := some 6) #[true, true, true, true, false, false, false] #[true, true, true, false, false, true, false] rfl rfl rfl rfl (by kernel_rfl) (by decide) (by decide) (fun K hK => ?_) (fun K hK => ?_)
                · skip
                  refine goes_ Try.func32 (by kernel_rfl) rfl #[.agg #[.int .i64 a1_0, .slice A1_1 l1_1.length c1_1]] (by rfl) rfl rfl (by (try simp only [List.map_toArray, List.map_cons, List.map_nil]); first | done | rfl | (simp only [List.length_drop, List.length_take]; rfl)) ?_
                  with_reducible refine (laws_toFact.calls k a1_0 _ _ l1_1 t217 t218 _ ?side1 ?side2 A20.out).mono ?_
                  (case side1 => exact zc HR1_1.out)
                  (case side2 => exact HC1_1.out)
                  rintro e w45 ⟨v219, rfl, ho0, hb⟩
                  refine ⟨_, rfl, ?_⟩
                  have HO220 := zm (Kd.R_lower (Kd.R_new' (Kd.R_new' ho0 (Kd.R_lt (zr HO213.out))) (Kd.R_lt (zr HO216.out))) (below_size zl))
                  replace HO213 := zm (Kd.R_elder' (zr HO213.out) (Kd.R_base ho0) hb)
                  replace HO216 := zm (Kd.R_elder' (zr HO216.out) (Kd.R_base ho0) hb)
                  replace BK207 := zm (blk_below (zb BK207.out) hb)
                  replace BK208 := zm (blk_below (zb BK208.out) hb)
                  replace HB := zm (below_step zl hb)
                  (try clear hb)
                  (try clear hb2)
                  (try clear hk)
                  (try clear hi)
                  (try clear ho0)
                  obtain ⟨Ao46, co46, eo46⟩ := Kd.R_slice HO213.out
                  (first | subst eo46 | (injection eo46 with f1_ f2_ f3_; have f4_ := f1_.symm; have f5_ := f3_.symm; clear f1_ f2_ f3_; subst f4_; subst f5_))
                  obtain ⟨Ao47, co47, eo47⟩ := Kd.R_slice HO216.out
                  (first | subst eo47 | (injection eo47 with f1_ f2_ f3_; have f4_ := f1_.symm; have f5_ := f3_.symm; clear f1_ f2_ f3_; subst f4_; subst f5_))
                  obtain ⟨Ao48, co48, eo48⟩ := Kd.R_slice HO220.out
                  (first | subst eo48 | (injection eo48 with f1_ f2_ f3_; have f4_ := f1_.symm; have f5_ := f3_.symm; clear f1_ f2_ f3_; subst f4_; subst f5_))
                  refine hK.out _ _ ⟨(blk_cell BK207.out 0).trans rfl, (blk_cell BK207.out 1).trans rfl, (blk_cell BK208.out 0).trans rfl, (blk_cell BK208.out 1).trans rfl⟩ (fun hHeld => ?_)
                  clear hK K
                  refine norm_ (a' := ?_) ?_ ?_
                  rotate_left
                  · show Act.put _ (some 27) _ = _
                    simp only [Act.put, List.setIfInBounds_toArray, List.set_cons_zero, List.set_cons_succ, i64_w, i32_w]
                    rfl
                  refine two_ (i := 4) (j := 5) (Ni := some 28) (Nj := some 6) #[true, true, true, true, true, false, false] #[true, true, true, true, false, true, false] rfl rfl rfl rfl (by kernel_rfl) (by decide) (by decide) (fun K hK => ?_) (fun K hK => ?_)
                  · skip
                    refine goes_ Try.func37 (by kernel_rfl) rfl #[.agg #[.slice Ao46 t211.length co46, .slice Ao47 t214.length co47], .agg #[.int .i64 t217, .slice Ao48 t218.length co48]] (by rfl) rfl rfl (by (try simp only [List.map_toArray, List.map_cons, List.map_nil]); first | done | rfl | (simp only [List.length_drop, List.length_take]; rfl)) ?_
                    with_reducible refine (spec_ApplyToFact.calls k _ _ t211 _ _ t214 t217 _ _ t218 t221 t222 _ ?side1 ?side2 ?side3 ?side4 ?side5 ?side6 A21.out).mono ?_
                    (case side1 => repeat (first | exact (Kd.R_reads' HO213.out).2.2 | (with_reducible refine Kd.C_alloc ?_ _) | (with_reducible refine Kd.C_drewN ?_ _) | (with_reducible refine Kd.C_drew ?_)))
                    (case side2 => exact (Kd.R_reads' HO213.out).2.1)
                    (case side3 => repeat (first | exact (Kd.R_reads' HO216.out).2.2 | (with_reducible refine Kd.C_alloc ?_ _) | (with_reducible refine Kd.C_drewN ?_ _) | (with_reducible refine Kd.C_drew ?_)))
                    (case side4 => exact (Kd.R_reads' HO216.out).2.1)
                    (case side5 => repeat (first | exact (Kd.R_reads' HO220.out).2.2 | (with_reducible refine Kd.C_alloc ?_ _) | (with_reducible refine Kd.C_drewN ?_ _) | (with_reducible refine Kd.C_drew ?_)))
                    (case side6 => exact (Kd.R_reads' HO220.out).2.1)
                    rintro e w49 ⟨v223, rfl, ho0, hb⟩
                    refine ⟨_, rfl, ?_⟩
                    have HO224 := zm (Kd.R_lower (Kd.R_new' (Kd.R_new' (Kd.R_new' ho0 (Kd.R_lt (zr HO213.out))) (Kd.R_lt (zr HO216.out))) (Kd.R_lt (zr HO220.out))) (below_size zl))
                    replace HO213 := zm (Kd.R_elder' (zr HO213.out) (Kd.R_base ho0) hb)
                    replace HO216 := zm (Kd.R_elder' (zr HO216.out) (Kd.R_base ho0) hb)
                    replace HO220 := zm (Kd.R_elder' (zr HO220.out) (Kd.R_base ho0) hb)
                    replace BK207 := zm (blk_below (zb BK207.out) hb)
                    replace BK208 := zm (blk_below (zb BK208.out) hb)
                    replace HB := zm (below_step zl hb)
                    (try clear hb)
                    (try clear hb2)
                    (try clear hk)
                    (try clear hi)
                    (try clear ho0)
                    refine hK.out _ _ ⟨(blk_cell BK207.out 0).trans rfl, (blk_cell BK207.out 1).trans rfl, (blk_cell BK208.out 0).trans rfl, (blk_cell BK208.out 1).trans rfl⟩ (fun hHeld => ?_)
                    clear hK K
                    refine norm_ (a' := ?_) ?_ ?_
                    rotate_left
                    · show Act.put _ (some 28) _ = _
                      simp only [Act.put, List.setIfInBounds_toArray, List.set_cons_zero, List.set_cons_succ, i64_w, i32_w]
                      rfl
                    refine one_ (i := 5) (N := some 6) #[true, true, true, true, true, true, false] rfl rfl (by kernel_rfl) (by decide) (fun K hK => ?_)
                    refine box_step ?hg (N := 6) ?hd (cs := #[.int .i64 0, .slice none 0 0]) (t := 50) ?hr ?_; (case hd => rfl); (case hg => rfl); (case hr => first | (go_simp; done) | (go_simp; rfl))
                    intro gb225 hg w50 hbox hb
                    replace HO213 := zm (Kd.R_below (zr HO213.out) hb)
                    replace HO216 := zm (Kd.R_below (zr HO216.out) hb)
                    replace HO220 := zm (Kd.R_below (zr HO220.out) hb)
                    replace HO224 := zm (Kd.R_below (zr HO224.out) hb)
                    have BK225 := zm (hbox)
                    have GW225 := zm ((by rw [hg]; exact (below_size zl) : w.heap.size ≤ gb225))
                    have GE225 := zm ((by rw [hg]; exact (below_size zl) : w.heap.size ≤ gb225))
                    replace HB := zm (below_step zl hb)
                    have NB207_225 := zm ((by rw [hg]; exact Nat.ne_of_lt (blk_lt (zb BK207.out)) : gb207 ≠ gb225))
                    have NB225_207 := zm ((by rw [hg]; exact Nat.ne_of_gt (blk_lt (zb BK207.out)) : gb225 ≠ gb207))
                    replace BK207 := zm (blk_below (zb BK207.out) hb)
                    have NB208_225 := zm ((by rw [hg]; exact Nat.ne_of_lt (blk_lt (zb BK208.out)) : gb208 ≠ gb225))
                    have NB225_208 := zm ((by rw [hg]; exact Nat.ne_of_gt (blk_lt (zb BK208.out)) : gb225 ≠ gb208))
                    replace BK208 := zm (blk_below (zb BK208.out) hb)
                    clear hb hbox hg
                    refine hK.out _ _ ⟨(blk_cell BK207.out 0).trans rfl, (blk_cell BK207.out 1).trans rfl, (blk_cell BK208.out 0).trans rfl, (blk_cell BK208.out 1).trans rfl⟩ (fun hHeld => ?_)
                    clear hK K
                    refine norm_ (a' := ?_) ?_ ?_
                    rotate_left
                    · show Act.put _ (some 6) _ = _
                      simp only [Act.put, List.setIfInBounds_toArray, List.set_cons_zero, List.set_cons_succ, i64_w, i32_w]
                      rfl
                    exact norm_ (by simp only [putAll, Act.put, List.setIfInBounds_toArray, List.set_cons_zero, List.set_cons_succ]) (hCont (.slice Ao46 t211.length co46, .slice Ao47 t214.length co47, .slice Ao48 t218.length co48, v223, gb225) _ ⟨hHeld, (zr (Kd.R_mono HO213.out (fun _ hk => ⟨hk.1.1, ⟨hk.1.2, hk.2⟩⟩))), (zr (Kd.R_mono HO216.out (fun _ hk => ⟨hk.1.1, ⟨hk.1.2, hk.2⟩⟩))), (zr (Kd.R_mono HO220.out (fun _ hk => ⟨hk.1.1.2, ⟨hk.1.2, hk.2⟩⟩))), (zr (Kd.R_mono HO224.out (fun _ hk => ⟨hk.1.1.2, ⟨hk.1.2, hk.2⟩⟩))), (zb BK207.out), (zb BK208.out), (zb BK225.out), GW225.out, GE225.out, NB207_225.out, NB225_207.out, NB208_225.out, NB225_208.out, zl⟩)
                  · skip
                    refine box_step ?hg (N := 6) ?hd (cs := #[.int .i64 0, .slice none 0 0]) (t := 50) ?hr ?_; (case hd => rfl); (case hg => rfl); (case hr => first | (go_simp; done) | (go_simp; rfl))
                    intro gb225 hg w46 hbox hb
                    replace HO213 := zm (Kd.R_below (zr HO213.out) hb)
                    replace HO216 := zm (Kd.R_below (zr HO216.out) hb)
                    replace HO220 := zm (Kd.R_below (zr HO220.out) hb)
                    have BK225 := zm (hbox)
                    have GW225 := zm ((by rw [hg]; exact (below_size zl) : w.heap.size ≤ gb225))
                    have GE225 := zm ((by rw [hg]; exact (below_size zl) : w.heap.size ≤ gb225))
                    replace HB := zm (below_step zl hb)
                    have NB207_225 := zm ((by rw [hg]; exact Nat.ne_of_lt (blk_lt (zb BK207.out)) : gb207 ≠ gb225))
                    have NB225_207 := zm ((by rw [hg]; exact Nat.ne_of_gt (blk_lt (zb BK207.out)) : gb225 ≠ gb207))
                    replace BK207 := zm (blk_below (zb BK207.out) hb)
                    have NB208_225 := zm ((by rw [hg]; exact Nat.ne_of_lt (blk_lt (zb BK208.out)) : gb208 ≠ gb225))
                    have NB225_208 := zm ((by rw [hg]; exact Nat.ne_of_gt (blk_lt (zb BK208.out)) : gb225 ≠ gb208))
                    replace BK208 := zm (blk_below (zb BK208.out) hb)
                    clear hb hbox hg
                    obtain ⟨Ao47, co47, eo47⟩ := Kd.R_slice HO213.out
                    (first | subst eo47 | (injection eo47 with f1_ f2_ f3_; have f4_ := f1_.symm; have f5_ := f3_.symm; clear f1_ f2_ f3_; subst f4_; subst f5_))
                    obtain ⟨Ao48, co48, eo48⟩ := Kd.R_slice HO216.out
                    (first | subst eo48 | (injection eo48 with f1_ f2_ f3_; have f4_ := f1_.symm; have f5_ := f3_.symm; clear f1_ f2_ f3_; subst f4_; subst f5_))
                    obtain ⟨Ao49, co49, eo49⟩ := Kd.R_slice HO220.out
                    (first | subst eo49 | (injection eo49 with f1_ f2_ f3_; have f4_ := f1_.symm; have f5_ := f3_.symm; clear f1_ f2_ f3_; subst f4_; subst f5_))
                    refine hK.out _ _ ⟨(blk_cell BK207.out 0).trans rfl, (blk_cell BK207.out 1).trans rfl, (blk_cell BK208.out 0).trans rfl, (blk_cell BK208.out 1).trans rfl⟩ (fun hHeld => ?_)
                    clear hK K
                    refine norm_ (a' := ?_) ?_ ?_
                    rotate_left
                    · show Act.put _ (some 6) _ = _
                      simp only [Act.put, List.setIfInBounds_toArray, List.set_cons_zero, List.set_cons_succ, i64_w, i32_w]
                      rfl
                    refine one_ (i := 4) (N := some 28) #[true, true, true, true, true, true, false] rfl rfl (by kernel_rfl) (by decide) (fun K hK => ?_)
                    refine goes_ Try.func37 (by kernel_rfl) rfl #[.agg #[.slice Ao47 t211.length co47, .slice Ao48 t214.length co48], .agg #[.int .i64 t217, .slice Ao49 t218.length co49]] (by rfl) rfl rfl (by (try simp only [List.map_toArray, List.map_cons, List.map_nil]); first | done | rfl | (simp only [List.length_drop, List.length_take]; rfl)) ?_
                    with_reducible refine (spec_ApplyToFact.calls k _ _ t211 _ _ t214 t217 _ _ t218 t221 t222 _ ?side1 ?side2 ?side3 ?side4 ?side5 ?side6 A21.out).mono ?_
                    (case side1 => repeat (first | exact (Kd.R_reads' HO213.out).2.2 | (with_reducible refine Kd.C_alloc ?_ _) | (with_reducible refine Kd.C_drewN ?_ _) | (with_reducible refine Kd.C_drew ?_)))
                    (case side2 => exact (Kd.R_reads' HO213.out).2.1)
                    (case side3 => repeat (first | exact (Kd.R_reads' HO216.out).2.2 | (with_reducible refine Kd.C_alloc ?_ _) | (with_reducible refine Kd.C_drewN ?_ _) | (with_reducible refine Kd.C_drew ?_)))
                    (case side4 => exact (Kd.R_reads' HO216.out).2.1)
                    (case side5 => repeat (first | exact (Kd.R_reads' HO220.out).2.2 | (with_reducible refine Kd.C_alloc ?_ _) | (with_reducible refine Kd.C_drewN ?_ _) | (with_reducible refine Kd.C_drew ?_)))
                    (case side6 => exact (Kd.R_reads' HO220.out).2.1)
                    rintro e w50 ⟨v223, rfl, ho0, hb⟩
                    refine ⟨_, rfl, ?_⟩
                    have HO224 := zm (Kd.R_lower (Kd.R_new' (Kd.R_new' (Kd.R_new' ho0 (Kd.R_lt (zr HO213.out))) (Kd.R_lt (zr HO216.out))) (Kd.R_lt (zr HO220.out))) (below_size zl))
                    replace HO213 := zm (Kd.R_elder' (zr HO213.out) (Kd.R_base ho0) hb)
                    replace HO216 := zm (Kd.R_elder' (zr HO216.out) (Kd.R_base ho0) hb)
                    replace HO220 := zm (Kd.R_elder' (zr HO220.out) (Kd.R_base ho0) hb)
                    replace BK207 := zm (blk_below (zb BK207.out) hb)
                    replace BK208 := zm (blk_below (zb BK208.out) hb)
                    replace BK225 := zm (blk_below (zb BK225.out) hb)
                    replace HB := zm (below_step zl hb)
                    (try clear hb)
                    (try clear hb2)
                    (try clear hk)
                    (try clear hi)
                    (try clear ho0)
                    refine hK.out _ _ ⟨(blk_cell BK207.out 0).trans rfl, (blk_cell BK207.out 1).trans rfl, (blk_cell BK208.out 0).trans rfl, (blk_cell BK208.out 1).trans rfl⟩ (fun hHeld => ?_)
                    clear hK K
                    refine norm_ (a' := ?_) ?_ ?_
                    rotate_left
                    · show Act.put _ (some 28) _ = _
                      simp only [Act.put, List.setIfInBounds_toArray, List.set_cons_zero, List.set_cons_succ, i64_w, i32_w]
                      rfl
                    exact norm_ (by simp only [putAll, Act.put, List.setIfInBounds_toArray, List.set_cons_zero, List.set_cons_succ]) (hCont (.slice Ao47 t211.length co47, .slice Ao48 t214.length co48, .slice Ao49 t218.length co49, v223, gb225) _ ⟨hHeld, (zr (Kd.R_mono HO213.out (fun _ hk => ⟨hk.1.1, ⟨hk.1.2, hk.2⟩⟩))), (zr (Kd.R_mono HO216.out (fun _ hk => ⟨hk.1.1, ⟨hk.1.2, hk.2⟩⟩))), (zr (Kd.R_mono HO220.out (fun _ hk => ⟨hk.1.1.2, ⟨hk.1.2, hk.2⟩⟩))), (zr (Kd.R_mono HO224.out (fun _ hk => ⟨hk.1.1.2, ⟨hk.1.2, hk.2⟩⟩))), (zb BK207.out), (zb BK208.out), (zb BK225.out), GW225.out, GE225.out, NB207_225.out, NB225_207.out, NB208_225.out, NB225_208.out, zl⟩)
                · skip
                  refine box_step ?hg (N := 6) ?hd (cs := #[.int .i64 0, .slice none 0 0]) (t := 50) ?hr ?_; (case hd => rfl); (case hg => rfl); (case hr => first | (go_simp; done) | (go_simp; rfl))
                  intro gb225 hg w45 hbox hb
                  replace HO213 := zm (Kd.R_below (zr HO213.out) hb)
                  replace HO216 := zm (Kd.R_below (zr HO216.out) hb)
                  have BK225 := zm (hbox)
                  have GW225 := zm ((by rw [hg]; exact (below_size zl) : w.heap.size ≤ gb225))
                  have GE225 := zm ((by rw [hg]; exact (below_size zl) : w.heap.size ≤ gb225))
                  replace HB := zm (below_step zl hb)
                  have NB207_225 := zm ((by rw [hg]; exact Nat.ne_of_lt (blk_lt (zb BK207.out)) : gb207 ≠ gb225))
                  have NB225_207 := zm ((by rw [hg]; exact Nat.ne_of_gt (blk_lt (zb BK207.out)) : gb225 ≠ gb207))
                  replace BK207 := zm (blk_below (zb BK207.out) hb)
                  have NB208_225 := zm ((by rw [hg]; exact Nat.ne_of_lt (blk_lt (zb BK208.out)) : gb208 ≠ gb225))
                  have NB225_208 := zm ((by rw [hg]; exact Nat.ne_of_gt (blk_lt (zb BK208.out)) : gb225 ≠ gb208))
                  replace BK208 := zm (blk_below (zb BK208.out) hb)
                  clear hb hbox hg
                  refine hK.out _ _ ⟨(blk_cell BK207.out 0).trans rfl, (blk_cell BK207.out 1).trans rfl, (blk_cell BK208.out 0).trans rfl, (blk_cell BK208.out 1).trans rfl⟩ (fun hHeld => ?_)
                  clear hK K
                  refine norm_ (a' := ?_) ?_ ?_
                  rotate_left
                  · show Act.put _ (some 6) _ = _
                    simp only [Act.put, List.setIfInBounds_toArray, List.set_cons_zero, List.set_cons_succ, i64_w, i32_w]
                    rfl
                  refine one_ (i := 3) (N := some 27) #[true, true, true, true, false, true, false] rfl rfl (by kernel_rfl) (by decide) (fun K hK => ?_)
                  refine goes_ Try.func32 (by kernel_rfl) rfl #[.agg #[.int .i64 a1_0, .slice A1_1 l1_1.length c1_1]] (by rfl) rfl rfl (by (try simp only [List.map_toArray, List.map_cons, List.map_nil]); first | done | rfl | (simp only [List.length_drop, List.length_take]; rfl)) ?_
                  with_reducible refine (laws_toFact.calls k a1_0 _ _ l1_1 t217 t218 _ ?side1 ?side2 A20.out).mono ?_
                  (case side1 => exact zc HR1_1.out)
                  (case side2 => exact HC1_1.out)
                  rintro e w46 ⟨v219, rfl, ho0, hb⟩
                  refine ⟨_, rfl, ?_⟩
                  have HO220 := zm (Kd.R_lower (Kd.R_new' (Kd.R_new' ho0 (Kd.R_lt (zr HO213.out))) (Kd.R_lt (zr HO216.out))) (below_size zl))
                  replace HO213 := zm (Kd.R_elder' (zr HO213.out) (Kd.R_base ho0) hb)
                  replace HO216 := zm (Kd.R_elder' (zr HO216.out) (Kd.R_base ho0) hb)
                  replace BK207 := zm (blk_below (zb BK207.out) hb)
                  replace BK208 := zm (blk_below (zb BK208.out) hb)
                  replace BK225 := zm (blk_below (zb BK225.out) hb)
                  replace HB := zm (below_step zl hb)
                  (try clear hb)
                  (try clear hb2)
                  (try clear hk)
                  (try clear hi)
                  (try clear ho0)
                  obtain ⟨Ao47, co47, eo47⟩ := Kd.R_slice HO213.out
                  (first | subst eo47 | (injection eo47 with f1_ f2_ f3_; have f4_ := f1_.symm; have f5_ := f3_.symm; clear f1_ f2_ f3_; subst f4_; subst f5_))
                  obtain ⟨Ao48, co48, eo48⟩ := Kd.R_slice HO216.out
                  (first | subst eo48 | (injection eo48 with f1_ f2_ f3_; have f4_ := f1_.symm; have f5_ := f3_.symm; clear f1_ f2_ f3_; subst f4_; subst f5_))
                  obtain ⟨Ao49, co49, eo49⟩ := Kd.R_slice HO220.out
                  (first | subst eo49 | (injection eo49 with f1_ f2_ f3_; have f4_ := f1_.symm; have f5_ := f3_.symm; clear f1_ f2_ f3_; subst f4_; subst f5_))
                  refine hK.out _ _ ⟨(blk_cell BK207.out 0).trans rfl, (blk_cell BK207.out 1).trans rfl, (blk_cell BK208.out 0).trans rfl, (blk_cell BK208.out 1).trans rfl⟩ (fun hHeld => ?_)
                  clear hK K
                  refine norm_ (a' := ?_) ?_ ?_
                  rotate_left
                  · show Act.put _ (some 27) _ = _
                    simp only [Act.put, List.setIfInBounds_toArray, List.set_cons_zero, List.set_cons_succ, i64_w, i32_w]
                    rfl
                  refine one_ (i := 4) (N := some 28) #[true, true, true, true, true, true, false] rfl rfl (by kernel_rfl) (by decide) (fun K hK => ?_)
                  refine goes_ Try.func37 (by kernel_rfl) rfl #[.agg #[.slice Ao47 t211.length co47, .slice Ao48 t214.length co48], .agg #[.int .i64 t217, .slice Ao49 t218.length co49]] (by rfl) rfl rfl (by (try simp only [List.map_toArray, List.map_cons, List.map_nil]); first | done | rfl | (simp only [List.length_drop, List.length_take]; rfl)) ?_
                  with_reducible refine (spec_ApplyToFact.calls k _ _ t211 _ _ t214 t217 _ _ t218 t221 t222 _ ?side1 ?side2 ?side3 ?side4 ?side5 ?side6 A21.out).mono ?_
                  (case side1 => repeat (first | exact (Kd.R_reads' HO213.out).2.2 | (with_reducible refine Kd.C_alloc ?_ _) | (with_reducible refine Kd.C_drewN ?_ _) | (with_reducible refine Kd.C_drew ?_)))
                  (case side2 => exact (Kd.R_reads' HO213.out).2.1)
                  (case side3 => repeat (first | exact (Kd.R_reads' HO216.out).2.2 | (with_reducible refine Kd.C_alloc ?_ _) | (with_reducible refine Kd.C_drewN ?_ _) | (with_reducible refine Kd.C_drew ?_)))
                  (case side4 => exact (Kd.R_reads' HO216.out).2.1)
                  (case side5 => repeat (first | exact (Kd.R_reads' HO220.out).2.2 | (with_reducible refine Kd.C_alloc ?_ _) | (with_reducible refine Kd.C_drewN ?_ _) | (with_reducible refine Kd.C_drew ?_)))
                  (case side6 => exact (Kd.R_reads' HO220.out).2.1)
                  rintro e w50 ⟨v223, rfl, ho0, hb⟩
                  refine ⟨_, rfl, ?_⟩
                  have HO224 := zm (Kd.R_lower (Kd.R_new' (Kd.R_new' (Kd.R_new' ho0 (Kd.R_lt (zr HO213.out))) (Kd.R_lt (zr HO216.out))) (Kd.R_lt (zr HO220.out))) (below_size zl))
                  replace HO213 := zm (Kd.R_elder' (zr HO213.out) (Kd.R_base ho0) hb)
                  replace HO216 := zm (Kd.R_elder' (zr HO216.out) (Kd.R_base ho0) hb)
                  replace HO220 := zm (Kd.R_elder' (zr HO220.out) (Kd.R_base ho0) hb)
                  replace BK207 := zm (blk_below (zb BK207.out) hb)
                  replace BK208 := zm (blk_below (zb BK208.out) hb)
                  replace BK225 := zm (blk_below (zb BK225.out) hb)
                  replace HB := zm (below_step zl hb)
                  (try clear hb)
                  (try clear hb2)
                  (try clear hk)
                  (try clear hi)
                  (try clear ho0)
                  refine hK.out _ _ ⟨(blk_cell BK207.out 0).trans rfl, (blk_cell BK207.out 1).trans rfl, (blk_cell BK208.out 0).trans rfl, (blk_cell BK208.out 1).trans rfl⟩ (fun hHeld => ?_)
                  clear hK K
                  refine norm_ (a' := ?_) ?_ ?_
                  rotate_left
                  · show Act.put _ (some 28) _ = _
                    simp only [Act.put, List.setIfInBounds_toArray, List.set_cons_zero, List.set_cons_succ, i64_w, i32_w]
                    rfl
                  exact norm_ (by simp only [putAll, Act.put, List.setIfInBounds_toArray, List.set_cons_zero, List.set_cons_succ]) (hCont (.slice Ao47 t211.length co47, .slice Ao48 t214.length co48, .slice Ao49 t218.length co49, v223, gb225) _ ⟨hHeld, (zr (Kd.R_mono HO213.out (fun _ hk => ⟨hk.1.1, ⟨hk.1.2, hk.2⟩⟩))), (zr (Kd.R_mono HO216.out (fun _ hk => ⟨hk.1.1, ⟨hk.1.2, hk.2⟩⟩))), (zr (Kd.R_mono HO220.out (fun _ hk => ⟨hk.1.1.2, ⟨hk.1.2, hk.2⟩⟩))), (zr (Kd.R_mono HO224.out (fun _ hk => ⟨hk.1.1.2, ⟨hk.1.2, hk.2⟩⟩))), (zb BK207.out), (zb BK208.out), (zb BK225.out), GW225.out, GE225.out, NB207_225.out, NB225_207.out, NB208_225.out, NB225_208.out, zl⟩)
              · skip
                refine box_step ?hg (N := 6) ?hd (cs := #[.int .i64 0, .slice none 0 0]) (t := 50) ?hr ?_; (case hd => rfl); (case hg => rfl); (case hr => first | (go_simp; done) | (go_simp; rfl))
                intro gb225 hg w44 hbox hb
                have BK225 := zm (hbox)
                have GW225 := zm ((by rw [hg]; exact (below_size zl) : w.heap.size ≤ gb225))
                have GE225 := zm ((by rw [hg]; exact (below_size zl) : w.heap.size ≤ gb225))
                replace HB := zm (below_step zl hb)
                have NB207_225 := zm ((by rw [hg]; exact Nat.ne_of_lt (blk_lt (zb BK207.out)) : gb207 ≠ gb225))
                have NB225_207 := zm ((by rw [hg]; exact Nat.ne_of_gt (blk_lt (zb BK207.out)) : gb225 ≠ gb207))
                replace BK207 := zm (blk_below (zb BK207.out) hb)
                have NB208_225 := zm ((by rw [hg]; exact Nat.ne_of_lt (blk_lt (zb BK208.out)) : gb208 ≠ gb225))
                have NB225_208 := zm ((by rw [hg]; exact Nat.ne_of_gt (blk_lt (zb BK208.out)) : gb225 ≠ gb208))
                replace BK208 := zm (blk_below (zb BK208.out) hb)
                clear hb hbox hg
                refine hK.out _ _ ⟨(blk_cell BK207.out 0).trans rfl, (blk_cell BK207.out 1).trans rfl, (blk_cell BK208.out 0).trans rfl, (blk_cell BK208.out 1).trans rfl⟩ (fun hHeld => ?_)
                clear hK K
                refine norm_ (a' := ?_) ?_ ?_
                rotate_left
                · show Act.put _ (some 6) _ = _
                  simp only [Act.put, List.setIfInBounds_toArray, List.set_cons_zero, List.set_cons_succ, i64_w, i32_w]
                  rfl
                refine one_ (i := 1) (N := some 25) #[true, true, true, false, false, true, false] rfl rfl (by kernel_rfl) (by decide) (fun K hK => ?_)
                refine goes_ Try.func23 (by kernel_rfl) rfl #[.agg #[.slice A0_0 l0_0.length c0_0, .slice A0_1 l0_1.length c0_1]] (by rfl) rfl rfl (by (try simp only [List.map_toArray, List.map_cons, List.map_nil]); first | done | rfl | (simp only [List.length_drop, List.length_take]; rfl)) ?_
                with_reducible refine (laws_toSubstitution.calls k _ _ l0_0 _ _ l0_1 t211 t214 _ ?side1 ?side2 ?side3 ?side4 A19.out).mono ?_
                (case side1 => exact zc HR0_0.out)
                (case side2 => exact HC0_0.out)
                (case side3 => exact zc HR0_1.out)
                (case side4 => exact HC0_1.out)
                rintro e w45 ⟨v212, v215, rfl, ho0, ho1, hb⟩
                refine ⟨_, rfl, ?_⟩
                have HO213 := zm (Kd.R_lower ho0 (below_size zl))
                have HO216 := zm (Kd.R_lower ho1 (below_size zl))
                replace BK207 := zm (blk_below (zb BK207.out) hb)
                replace BK208 := zm (blk_below (zb BK208.out) hb)
                replace BK225 := zm (blk_below (zb BK225.out) hb)
                replace HB := zm (below_step zl hb)
                (try clear hb)
                (try clear hb2)
                (try clear hk)
                (try clear hi)
                (try clear ho0)
                (try clear ho1)
                refine hK.out _ _ ⟨(blk_cell BK207.out 0).trans rfl, (blk_cell BK207.out 1).trans rfl, (blk_cell BK208.out 0).trans rfl, (blk_cell BK208.out 1).trans rfl⟩ (fun hHeld => ?_)
                clear hK K
                refine norm_ (a' := ?_) ?_ ?_
                rotate_left
                · show Act.put _ (some 25) _ = _
                  simp only [Act.put, List.setIfInBounds_toArray, List.set_cons_zero, List.set_cons_succ, i64_w, i32_w]
                  rfl
                refine one_ (i := 3) (N := some 27) #[true, true, true, true, false, true, false] rfl rfl (by kernel_rfl) (by decide) (fun K hK => ?_)
                refine goes_ Try.func32 (by kernel_rfl) rfl #[.agg #[.int .i64 a1_0, .slice A1_1 l1_1.length c1_1]] (by rfl) rfl rfl (by (try simp only [List.map_toArray, List.map_cons, List.map_nil]); first | done | rfl | (simp only [List.length_drop, List.length_take]; rfl)) ?_
                with_reducible refine (laws_toFact.calls k a1_0 _ _ l1_1 t217 t218 _ ?side1 ?side2 A20.out).mono ?_
                (case side1 => exact zc HR1_1.out)
                (case side2 => exact HC1_1.out)
                rintro e w46 ⟨v219, rfl, ho0, hb⟩
                refine ⟨_, rfl, ?_⟩
                have HO220 := zm (Kd.R_lower (Kd.R_new' (Kd.R_new' ho0 (Kd.R_lt (zr HO213.out))) (Kd.R_lt (zr HO216.out))) (below_size zl))
                replace HO213 := zm (Kd.R_elder' (zr HO213.out) (Kd.R_base ho0) hb)
                replace HO216 := zm (Kd.R_elder' (zr HO216.out) (Kd.R_base ho0) hb)
                replace BK207 := zm (blk_below (zb BK207.out) hb)
                replace BK208 := zm (blk_below (zb BK208.out) hb)
                replace BK225 := zm (blk_below (zb BK225.out) hb)
                replace HB := zm (below_step zl hb)
                (try clear hb)
                (try clear hb2)
                (try clear hk)
                (try clear hi)
                (try clear ho0)
                obtain ⟨Ao47, co47, eo47⟩ := Kd.R_slice HO213.out
                (first | subst eo47 | (injection eo47 with f1_ f2_ f3_; have f4_ := f1_.symm; have f5_ := f3_.symm; clear f1_ f2_ f3_; subst f4_; subst f5_))
                obtain ⟨Ao48, co48, eo48⟩ := Kd.R_slice HO216.out
                (first | subst eo48 | (injection eo48 with f1_ f2_ f3_; have f4_ := f1_.symm; have f5_ := f3_.symm; clear f1_ f2_ f3_; subst f4_; subst f5_))
                obtain ⟨Ao49, co49, eo49⟩ := Kd.R_slice HO220.out
                (first | subst eo49 | (injection eo49 with f1_ f2_ f3_; have f4_ := f1_.symm; have f5_ := f3_.symm; clear f1_ f2_ f3_; subst f4_; subst f5_))
                refine hK.out _ _ ⟨(blk_cell BK207.out 0).trans rfl, (blk_cell BK207.out 1).trans rfl, (blk_cell BK208.out 0).trans rfl, (blk_cell BK208.out 1).trans rfl⟩ (fun hHeld => ?_)
                clear hK K
                refine norm_ (a' := ?_) ?_ ?_
                rotate_left
                · show Act.put _ (some 27) _ = _
                  simp only [Act.put, List.setIfInBounds_toArray, List.set_cons_zero, List.set_cons_succ, i64_w, i32_w]
                  rfl
                refine one_ (i := 4) (N := some 28) #[true, true, true, true, true, true, false] rfl rfl (by kernel_rfl) (by decide) (fun K hK => ?_)
                refine goes_ Try.func37 (by kernel_rfl) rfl #[.agg #[.slice Ao47 t211.length co47, .slice Ao48 t214.length co48], .agg #[.int .i64 t217, .slice Ao49 t218.length co49]] (by rfl) rfl rfl (by (try simp only [List.map_toArray, List.map_cons, List.map_nil]); first | done | rfl | (simp only [List.length_drop, List.length_take]; rfl)) ?_
                with_reducible refine (spec_ApplyToFact.calls k _ _ t211 _ _ t214 t217 _ _ t218 t221 t222 _ ?side1 ?side2 ?side3 ?side4 ?side5 ?side6 A21.out).mono ?_
                (case side1 => repeat (first | exact (Kd.R_reads' HO213.out).2.2 | (with_reducible refine Kd.C_alloc ?_ _) | (with_reducible refine Kd.C_drewN ?_ _) | (with_reducible refine Kd.C_drew ?_)))
                (case side2 => exact (Kd.R_reads' HO213.out).2.1)
                (case side3 => repeat (first | exact (Kd.R_reads' HO216.out).2.2 | (with_reducible refine Kd.C_alloc ?_ _) | (with_reducible refine Kd.C_drewN ?_ _) | (with_reducible refine Kd.C_drew ?_)))
                (case side4 => exact (Kd.R_reads' HO216.out).2.1)
                (case side5 => repeat (first | exact (Kd.R_reads' HO220.out).2.2 | (with_reducible refine Kd.C_alloc ?_ _) | (with_reducible refine Kd.C_drewN ?_ _) | (with_reducible refine Kd.C_drew ?_)))
                (case side6 => exact (Kd.R_reads' HO220.out).2.1)
                rintro e w50 ⟨v223, rfl, ho0, hb⟩
                refine ⟨_, rfl, ?_⟩
                have HO224 := zm (Kd.R_lower (Kd.R_new' (Kd.R_new' (Kd.R_new' ho0 (Kd.R_lt (zr HO213.out))) (Kd.R_lt (zr HO216.out))) (Kd.R_lt (zr HO220.out))) (below_size zl))
                replace HO213 := zm (Kd.R_elder' (zr HO213.out) (Kd.R_base ho0) hb)
                replace HO216 := zm (Kd.R_elder' (zr HO216.out) (Kd.R_base ho0) hb)
                replace HO220 := zm (Kd.R_elder' (zr HO220.out) (Kd.R_base ho0) hb)
                replace BK207 := zm (blk_below (zb BK207.out) hb)
                replace BK208 := zm (blk_below (zb BK208.out) hb)
                replace BK225 := zm (blk_below (zb BK225.out) hb)
                replace HB := zm (below_step zl hb)
                (try clear hb)
                (try clear hb2)
                (try clear hk)
                (try clear hi)
                (try clear ho0)
                refine hK.out _ _ ⟨(blk_cell BK207.out 0).trans rfl, (blk_cell BK207.out 1).trans rfl, (blk_cell BK208.out 0).trans rfl, (blk_cell BK208.out 1).trans rfl⟩ (fun hHeld => ?_)
                clear hK K
                refine norm_ (a' := ?_) ?_ ?_
                rotate_left
                · show Act.put _ (some 28) _ = _
                  simp only [Act.put, List.setIfInBounds_toArray, List.set_cons_zero, List.set_cons_succ, i64_w, i32_w]
                  rfl
                exact norm_ (by simp only [putAll, Act.put, List.setIfInBounds_toArray, List.set_cons_zero, List.set_cons_succ]) (hCont (.slice Ao47 t211.length co47, .slice Ao48 t214.length co48, .slice Ao49 t218.length co49, v223, gb225) _ ⟨hHeld, (zr (Kd.R_mono HO213.out (fun _ hk => ⟨hk.1.1, ⟨hk.1.2, hk.2⟩⟩))), (zr (Kd.R_mono HO216.out (fun _ hk => ⟨hk.1.1, ⟨hk.1.2, hk.2⟩⟩))), (zr (Kd.R_mono HO220.out (fun _ hk => ⟨hk.1.1.2, ⟨hk.1.2, hk.2⟩⟩))), (zr (Kd.R_mono HO224.out (fun _ hk => ⟨hk.1.1.2, ⟨hk.1.2, hk.2⟩⟩))), (zb BK207.out), (zb BK208.out), (zb BK225.out), GW225.out, GE225.out, NB207_225.out, NB225_207.out, NB208_225.out, NB225_208.out, zl⟩)
            rintro ⟨v212, v215, v219, v223, gb225⟩ w51 ⟨hS_, h0_, h1_, h2_, h3_, h4_, h5_, h6_, h7_, h8_, h9_, h10_, h11_, h12_, h13_⟩
            have n0_ : Aside0 (Kd.R (Kd.int .i64) 3 w51 w.heap.size (fun k_ => some k_ ≠ (v215 : Value).ownBlock ∧ some k_ ≠ (v219 : Value).ownBlock ∧ some k_ ≠ (v223 : Value).ownBlock) v212 t211) := ⟨h0_⟩
            have n1_ : Aside0 (Kd.R (Kd.int .i64) 3 w51 w.heap.size (fun k_ => some k_ ≠ (v212 : Value).ownBlock ∧ some k_ ≠ (v219 : Value).ownBlock ∧ some k_ ≠ (v223 : Value).ownBlock) v215 t214) := ⟨h1_⟩
            have n2_ : Aside0 (Kd.R (Kd.int .i64) 3 w51 w.heap.size (fun k_ => some k_ ≠ (v212 : Value).ownBlock ∧ some k_ ≠ (v215 : Value).ownBlock ∧ some k_ ≠ (v223 : Value).ownBlock) v219 t218) := ⟨h2_⟩
            have n3_ : Aside0 (Kd.R (Kd.int .i64) 3 w51 w.heap.size (fun k_ => some k_ ≠ (v212 : Value).ownBlock ∧ some k_ ≠ (v215 : Value).ownBlock ∧ some k_ ≠ (v219 : Value).ownBlock) v223 t222) := ⟨h3_⟩
            have n4_ : Aside0 (w51.heap[gb207]? = some (.cells #[.slice A0_0 l0_0.length c0_0, .slice A0_1 l0_1.length c0_1] 36 (0, 0))) := ⟨h4_⟩
            have n5_ : Aside0 (w51.heap[gb208]? = some (.cells #[.int .i64 a1_0, .slice A1_1 l1_1.length c1_1] 47 (0, 0))) := ⟨h5_⟩
            have n6_ : Aside0 (w51.heap[gb225]? = some (.cells #[.int .i64 0, .slice none 0 0] 50 (0, 0))) := ⟨h6_⟩
            have n7_ : Aside0 (w.heap.size ≤ gb225) := ⟨h7_⟩
            have n8_ : Aside0 (w.heap.size ≤ gb225) := ⟨h8_⟩
            have n9_ : Aside0 (gb207 ≠ gb225) := ⟨h9_⟩
            have n10_ : Aside0 (gb225 ≠ gb207) := ⟨h10_⟩
            have n11_ : Aside0 (gb208 ≠ gb225) := ⟨h11_⟩
            have n12_ : Aside0 (gb225 ≠ gb208) := ⟨h12_⟩
            have n13_ : Aside0 (Below w.heap.size w w51) := ⟨h13_⟩
            clear BK207
            clear BK208
            clear HB
            clear h0_ h1_ h2_ h3_ h4_ h5_ h6_ h7_ h8_ h9_ h10_ h11_ h12_ h13_
            have HO213 := n0_
            have HO216 := n1_
            have HO220 := n2_
            have HO224 := n3_
            have BK207 := n4_
            have BK208 := n5_
            have BK225 := n6_
            have GW225 := n7_
            have GE225 := n8_
            have NB207_225 := n9_
            have NB225_207 := n10_
            have NB208_225 := n11_
            have NB225_208 := n12_
            have HB := n13_
            clear n0_ n1_ n2_ n3_ n4_ n5_ n6_ n7_ n8_ n9_ n10_ n11_ n12_ n13_
            have hHeld : w51.cell? ⟨gb207, 0, none⟩ = some (.slice A0_0 l0_0.length c0_0) ∧ w51.cell? ⟨gb207, 1, none⟩ = some (.slice A0_1 l0_1.length c0_1) ∧ w51.cell? ⟨gb208, 0, none⟩ = some (.int .i64 a1_0) ∧ w51.cell? ⟨gb208, 1, none⟩ = some (.slice A1_1 l1_1.length c1_1) := hS_
            obtain ⟨Ao53, co53, eo53⟩ := Kd.R_slice HO224.out
            (first | subst eo53 | (injection eo53 with f1_ f2_ f3_; have f4_ := f1_.symm; have f5_ := f3_.symm; clear f1_ f2_ f3_; subst f4_; subst f5_))
            refine norm_ (a' := ?_) ?_ ?_
            rotate_left
            · simp only [putAll, Act.put, List.setIfInBounds_toArray, List.set_cons_zero, List.set_cons_succ]
              rfl
            refine one_ (i := 6) (N := none) #[true, true, true, true, true, true, true] rfl rfl (by kernel_rfl) (by decide) (fun K hK => ?_)
            have hs52 : w51.cell? ⟨gb225, 0, none⟩ = some (.int .i64 0) := (blk_cell BK225.out 0).trans rfl
            have hfs52 := blk_frozen BK225.out 0
            have hns52_0 := NB207_225.out
            have hns52_1 := NB208_225.out
            have hms52_0 := NB225_207.out
            have hms52_1 := NB225_208.out
            have hs54 : w51.cell? ⟨gb225, 1, none⟩ = some (.slice none 0 0) := (blk_cell BK225.out 1).trans rfl
            have hfs54 := blk_frozen BK225.out 1
            have hns54_0 := NB207_225.out
            have hns54_1 := NB208_225.out
            have hms54_0 := NB225_207.out
            have hms54_1 := NB225_208.out
            refine skip_ (w1 := ?_) (by rfl) rfl ?_ ?_
            rotate_left
            · go_simp
              rfl
            refine hK.out _ _ ⟨((cell_far (p := ⟨gb225, _, none⟩) NB207_225.out _).trans (((cell_far (p := ⟨gb225, _, none⟩) NB207_225.out _).trans (hHeld.1)))), ((cell_far (p := ⟨gb225, _, none⟩) NB207_225.out _).trans (((cell_far (p := ⟨gb225, _, none⟩) NB207_225.out _).trans (hHeld.2.1)))), ((cell_far (p := ⟨gb225, _, none⟩) NB208_225.out _).trans (((cell_far (p := ⟨gb225, _, none⟩) NB208_225.out _).trans (hHeld.2.2.1)))), ((cell_far (p := ⟨gb225, _, none⟩) NB208_225.out _).trans (((cell_far (p := ⟨gb225, _, none⟩) NB208_225.out _).trans (hHeld.2.2.2))))⟩ (fun hHeld => ?_)
            clear hK K
            refine done_ (by kernel_rfl) ?_
            have hnb55 := NB207_225.out
            have hnc55 := NB225_207.out
            have hcz56_0 : w51.cell? ⟨gb207, 0, none⟩ = some (.slice A0_0 l0_0.length c0_0) := (blk_cell BK207.out 0).trans rfl
            have hcz56_1 : w51.cell? ⟨gb207, 1, none⟩ = some (.slice A0_1 l0_1.length c0_1) := (blk_cell BK207.out 1).trans rfl
            have hfz56_0 := blk_frozen BK207.out 0
            have hfz56_1 := blk_frozen BK207.out 1
            try go_wp2_with (first | ((with_reducible refine gate_callee (f := 23) rfl ?_); refine zg (some 30) Try.func23 #[.agg #[.slice A0_0 l0_0.length c0_0, .slice A0_1 l0_1.length c0_1]] ?_; (with_reducible refine (laws_toSubstitution.calls k _ _ l0_0 _ _ l0_1 t226 t229 _ ?side1 ?side2 ?side3 ?side4 A22.out).mono ?_); (case side1 => exact Kd.C_below HR0_0.out zl); (case side2 => exact HC0_0.out); (case side3 => exact Kd.C_below HR0_1.out zl); (case side4 => exact HC0_1.out); rintro e w57 ⟨v227, v230, rfl, ho0, ho1, hb⟩; refine ⟨_, rfl, ?_⟩; have HO228 := zm (Kd.R_lower (Kd.R_new' (Kd.R_new' (Kd.R_new' (Kd.R_new' ho0 (Kd.R_lt (zr (Kd.R_mono (Kd.R_far (p := ⟨gb225, 1, none⟩) (Kd.R_far (p := ⟨gb225, 0, none⟩) (Kd.R_types HO213.out BK225.out (by decide)) (fun _ hk => hk.2) (.int .i64 t221)) (fun _ hk => hk.2) (.slice Ao53 t222.length co53)) (fun _ h_ => h_.1))))) (Kd.R_lt (zr (Kd.R_mono (Kd.R_far (p := ⟨gb225, 1, none⟩) (Kd.R_far (p := ⟨gb225, 0, none⟩) (Kd.R_types HO216.out BK225.out (by decide)) (fun _ hk => hk.2) (.int .i64 t221)) (fun _ hk => hk.2) (.slice Ao53 t222.length co53)) (fun _ h_ => h_.1))))) (Kd.R_lt (zr (Kd.R_mono (Kd.R_far (p := ⟨gb225, 1, none⟩) (Kd.R_far (p := ⟨gb225, 0, none⟩) (Kd.R_types HO220.out BK225.out (by decide)) (fun _ hk => hk.2) (.int .i64 t221)) (fun _ hk => hk.2) (.slice Ao53 t222.length co53)) (fun _ h_ => h_.1))))) (Kd.R_lt (zr (Kd.R_mono (Kd.R_far (p := ⟨gb225, 1, none⟩) (Kd.R_far (p := ⟨gb225, 0, none⟩) (Kd.R_types HO224.out BK225.out (by decide)) (fun _ hk => hk.2) (.int .i64 t221)) (fun _ hk => hk.2) (.slice Ao53 t222.length co53)) (fun _ h_ => h_.1))))) (below_size zl)); have HO231 := zm (Kd.R_lower (Kd.R_new' (Kd.R_new' (Kd.R_new' (Kd.R_new' ho1 (Kd.R_lt (zr (Kd.R_mono (Kd.R_far (p := ⟨gb225, 1, none⟩) (Kd.R_far (p := ⟨gb225, 0, none⟩) (Kd.R_types HO213.out BK225.out (by decide)) (fun _ hk => hk.2) (.int .i64 t221)) (fun _ hk => hk.2) (.slice Ao53 t222.length co53)) (fun _ h_ => h_.1))))) (Kd.R_lt (zr (Kd.R_mono (Kd.R_far (p := ⟨gb225, 1, none⟩) (Kd.R_far (p := ⟨gb225, 0, none⟩) (Kd.R_types HO216.out BK225.out (by decide)) (fun _ hk => hk.2) (.int .i64 t221)) (fun _ hk => hk.2) (.slice Ao53 t222.length co53)) (fun _ h_ => h_.1))))) (Kd.R_lt (zr (Kd.R_mono (Kd.R_far (p := ⟨gb225, 1, none⟩) (Kd.R_far (p := ⟨gb225, 0, none⟩) (Kd.R_types HO220.out BK225.out (by decide)) (fun _ hk => hk.2) (.int .i64 t221)) (fun _ hk => hk.2) (.slice Ao53 t222.length co53)) (fun _ h_ => h_.1))))) (Kd.R_lt (zr (Kd.R_mono (Kd.R_far (p := ⟨gb225, 1, none⟩) (Kd.R_far (p := ⟨gb225, 0, none⟩) (Kd.R_types HO224.out BK225.out (by decide)) (fun _ hk => hk.2) (.int .i64 t221)) (fun _ hk => hk.2) (.slice Ao53 t222.length co53)) (fun _ h_ => h_.1))))) (below_size zl)); replace HO213 := zm (Kd.R_mono (Kd.R_told (Kd.R_told (Kd.R_old (zr (Kd.R_mono (Kd.R_far (p := ⟨gb225, 1, none⟩) (Kd.R_far (p := ⟨gb225, 0, none⟩) (Kd.R_types HO213.out BK225.out (by decide)) (fun _ hk => hk.2) (.int .i64 t221)) (fun _ hk => hk.2) (.slice Ao53 t222.length co53)) (fun _ h_ => h_.1))) hb) (Kd.R_base ho0)) (Kd.R_base ho1)) (fun _ h_ => h_.1)); replace HO216 := zm (Kd.R_mono (Kd.R_told (Kd.R_told (Kd.R_old (zr (Kd.R_mono (Kd.R_far (p := ⟨gb225, 1, none⟩) (Kd.R_far (p := ⟨gb225, 0, none⟩) (Kd.R_types HO216.out BK225.out (by decide)) (fun _ hk => hk.2) (.int .i64 t221)) (fun _ hk => hk.2) (.slice Ao53 t222.length co53)) (fun _ h_ => h_.1))) hb) (Kd.R_base ho0)) (Kd.R_base ho1)) (fun _ h_ => h_.1)); replace HO220 := zm (Kd.R_mono (Kd.R_told (Kd.R_told (Kd.R_old (zr (Kd.R_mono (Kd.R_far (p := ⟨gb225, 1, none⟩) (Kd.R_far (p := ⟨gb225, 0, none⟩) (Kd.R_types HO220.out BK225.out (by decide)) (fun _ hk => hk.2) (.int .i64 t221)) (fun _ hk => hk.2) (.slice Ao53 t222.length co53)) (fun _ h_ => h_.1))) hb) (Kd.R_base ho0)) (Kd.R_base ho1)) (fun _ h_ => h_.1)); replace HO224 := zm (Kd.R_mono (Kd.R_told (Kd.R_told (Kd.R_old (zr (Kd.R_mono (Kd.R_far (p := ⟨gb225, 1, none⟩) (Kd.R_far (p := ⟨gb225, 0, none⟩) (Kd.R_types HO224.out BK225.out (by decide)) (fun _ hk => hk.2) (.int .i64 t221)) (fun _ hk => hk.2) (.slice Ao53 t222.length co53)) (fun _ h_ => h_.1))) hb) (Kd.R_base ho0)) (Kd.R_base ho1)) (fun _ h_ => h_.1)); replace BK207 := zm (blk_below (g := gb207) (o := .cells #[.slice A0_0 l0_0.length c0_0, .slice A0_1 l0_1.length c0_1] 36 (0, 0)) (by (with_reducible repeat (first | refine blk_drewN ?_ _ | refine blk_drew ?_ | refine blk_alloc ?_ _)); refine blk_far ?_ NB207_225.out _; (with_reducible repeat (first | refine blk_drewN ?_ _ | refine blk_drew ?_ | refine blk_alloc ?_ _)); refine blk_far ?_ NB207_225.out _; (with_reducible repeat (first | refine blk_drewN ?_ _ | refine blk_drew ?_ | refine blk_alloc ?_ _)); exact BK207.out) hb); replace BK208 := zm (blk_below (g := gb208) (o := .cells #[.int .i64 a1_0, .slice A1_1 l1_1.length c1_1] 47 (0, 0)) (by (with_reducible repeat (first | refine blk_drewN ?_ _ | refine blk_drew ?_ | refine blk_alloc ?_ _)); refine blk_far ?_ NB208_225.out _; (with_reducible repeat (first | refine blk_drewN ?_ _ | refine blk_drew ?_ | refine blk_alloc ?_ _)); refine blk_far ?_ NB208_225.out _; (with_reducible repeat (first | refine blk_drewN ?_ _ | refine blk_drew ?_ | refine blk_alloc ?_ _)); exact BK208.out) hb); replace BK225 := zm (blk_below (g := gb225) (o := .cells #[.int .i64 t221, .slice Ao53 t222.length co53] 50 (0, 0)) (by (with_reducible repeat (first | refine blk_drewN ?_ _ | refine blk_drew ?_ | refine blk_alloc ?_ _)); refine blk_put (cs := #[.int .i64 t221, .slice none 0 0]) ?_ 1 _ rfl; (with_reducible repeat (first | refine blk_drewN ?_ _ | refine blk_drew ?_ | refine blk_alloc ?_ _)); refine blk_put (cs := #[.int .i64 0, .slice none 0 0]) ?_ 0 _ rfl; (with_reducible repeat (first | refine blk_drewN ?_ _ | refine blk_drew ?_ | refine blk_alloc ?_ _)); exact BK225.out) hb); replace HB := zm (below_step zl hb); (try clear hb); (try clear hb2); (try clear hk); (try clear hi); (try clear ho0); (try clear ho1)) | ((with_reducible refine gate_dst (N := 7) rfl ?_); refine box_event ?hg (N := 7) ?hd (cs := #[.slice none 0 0, .slice none 0 0]) (t := 39) ?hr ?_; (case hd => rfl); (case hg => rfl); (case hr => first | (go_simp; done) | (go_simp; rfl)); intro gb232 hg w58 hbox hb; replace HO213 := zm (Kd.R_below (zr HO213.out) hb); replace HO216 := zm (Kd.R_below (zr HO216.out) hb); replace HO220 := zm (Kd.R_below (zr HO220.out) hb); replace HO224 := zm (Kd.R_below (zr HO224.out) hb); replace HO228 := zm (Kd.R_below (zr HO228.out) hb); replace HO231 := zm (Kd.R_below (zr HO231.out) hb); have BK232 := zm (hbox); have GW232 := zm ((by rw [hg]; exact (below_size zl) : w.heap.size ≤ gb232)); have GE232 := zm ((by rw [hg]; exact (below_size zl) : w.heap.size ≤ gb232)); replace HB := zm (below_step zl hb); have NB207_232 := zm ((by rw [hg]; exact Nat.ne_of_lt (blk_lt (zb BK207.out)) : gb207 ≠ gb232)); have NB232_207 := zm ((by rw [hg]; exact Nat.ne_of_gt (blk_lt (zb BK207.out)) : gb232 ≠ gb207)); replace BK207 := zm (blk_below (zb BK207.out) hb); have NB208_232 := zm ((by rw [hg]; exact Nat.ne_of_lt (blk_lt (zb BK208.out)) : gb208 ≠ gb232)); have NB232_208 := zm ((by rw [hg]; exact Nat.ne_of_gt (blk_lt (zb BK208.out)) : gb232 ≠ gb208)); replace BK208 := zm (blk_below (zb BK208.out) hb); have NB225_232 := zm ((by rw [hg]; exact Nat.ne_of_lt (blk_lt (zb BK225.out)) : gb225 ≠ gb232)); have NB232_225 := zm ((by rw [hg]; exact Nat.ne_of_gt (blk_lt (zb BK225.out)) : gb232 ≠ gb225)); replace BK225 := zm (blk_below (zb BK225.out) hb); clear hb hbox hg; obtain ⟨Ao59, co59, eo59⟩ := Kd.R_slice HO228.out; subst eo59; have hnb60 := NB232_207.out; have hnc60 := NB207_232.out; have hnb61 := NB232_208.out; have hnc61 := NB208_232.out; have hnb62 := NB232_225.out; have hnc62 := NB225_232.out; have hcz63_0 : w58.cell? ⟨gb232, 0, none⟩ = some (.slice none 0 0) := (blk_cell BK232.out 0).trans rfl; have hcz63_1 : w58.cell? ⟨gb232, 1, none⟩ = some (.slice none 0 0) := (blk_cell BK232.out 1).trans rfl; have hfz63_0 := blk_frozen BK232.out 0; have hfz63_1 := blk_frozen BK232.out 1; obtain ⟨Ao64, co64, eo64⟩ := Kd.R_slice HO231.out; subst eo64; have hnb65 := NB208_225.out; have hnc65 := NB225_208.out; have hcz66_0 : w58.cell? ⟨gb208, 0, none⟩ = some (.int .i64 a1_0) := (blk_cell BK208.out 0).trans rfl; have hcz66_1 : w58.cell? ⟨gb208, 1, none⟩ = some (.slice A1_1 l1_1.length c1_1) := (blk_cell BK208.out 1).trans rfl; have hfz66_0 := blk_frozen BK208.out 0; have hfz66_1 := blk_frozen BK208.out 1) | ((with_reducible refine gate_callee (f := 32) rfl ?_); refine zg (some 32) Try.func32 #[.agg #[.int .i64 a1_0, .slice A1_1 l1_1.length c1_1]] ?_; (with_reducible refine (laws_toFact.calls k a1_0 _ _ l1_1 t233 t234 _ ?side1 ?side2 A23.out).mono ?_); (case side1 => exact Kd.C_below HR1_1.out zl); (case side2 => exact HC1_1.out); rintro e w67 ⟨v235, rfl, ho0, hb⟩; refine ⟨_, rfl, ?_⟩; have HO236 := zm (Kd.R_lower (Kd.R_new' (Kd.R_new' (Kd.R_new' (Kd.R_new' (Kd.R_new' (Kd.R_new' ho0 (Kd.R_lt (zr (Kd.R_mono (Kd.R_far (p := ⟨gb232, 1, none⟩) (Kd.R_far (p := ⟨gb232, 0, none⟩) (Kd.R_types HO213.out BK232.out (by decide)) (fun _ hk => hk.2) (.slice Ao59 t226.length co59)) (fun _ hk => hk.2) (.slice Ao64 t229.length co64)) (fun _ h_ => h_.1))))) (Kd.R_lt (zr (Kd.R_mono (Kd.R_far (p := ⟨gb232, 1, none⟩) (Kd.R_far (p := ⟨gb232, 0, none⟩) (Kd.R_types HO216.out BK232.out (by decide)) (fun _ hk => hk.2) (.slice Ao59 t226.length co59)) (fun _ hk => hk.2) (.slice Ao64 t229.length co64)) (fun _ h_ => h_.1))))) (Kd.R_lt (zr (Kd.R_mono (Kd.R_far (p := ⟨gb232, 1, none⟩) (Kd.R_far (p := ⟨gb232, 0, none⟩) (Kd.R_types HO220.out BK232.out (by decide)) (fun _ hk => hk.2) (.slice Ao59 t226.length co59)) (fun _ hk => hk.2) (.slice Ao64 t229.length co64)) (fun _ h_ => h_.1))))) (Kd.R_lt (zr (Kd.R_mono (Kd.R_far (p := ⟨gb232, 1, none⟩) (Kd.R_far (p := ⟨gb232, 0, none⟩) (Kd.R_types HO224.out BK232.out (by decide)) (fun _ hk => hk.2) (.slice Ao59 t226.length co59)) (fun _ hk => hk.2) (.slice Ao64 t229.length co64)) (fun _ h_ => h_.1))))) (Kd.R_lt (zr (Kd.R_mono (Kd.R_far (p := ⟨gb232, 1, none⟩) (Kd.R_far (p := ⟨gb232, 0, none⟩) (Kd.R_types HO228.out BK232.out (by decide)) (fun _ hk => hk.2) (.slice Ao59 t226.length co59)) (fun _ hk => hk.2) (.slice Ao64 t229.length co64)) (fun _ h_ => h_.1))))) (Kd.R_lt (zr (Kd.R_mono (Kd.R_far (p := ⟨gb232, 1, none⟩) (Kd.R_far (p := ⟨gb232, 0, none⟩) (Kd.R_types HO231.out BK232.out (by decide)) (fun _ hk => hk.2) (.slice Ao59 t226.length co59)) (fun _ hk => hk.2) (.slice Ao64 t229.length co64)) (fun _ h_ => h_.1))))) (below_size zl)); replace HO213 := zm (Kd.R_elder' (zr (Kd.R_mono (Kd.R_far (p := ⟨gb232, 1, none⟩) (Kd.R_far (p := ⟨gb232, 0, none⟩) (Kd.R_types HO213.out BK232.out (by decide)) (fun _ hk => hk.2) (.slice Ao59 t226.length co59)) (fun _ hk => hk.2) (.slice Ao64 t229.length co64)) (fun _ h_ => h_.1))) (Kd.R_base ho0) hb); replace HO216 := zm (Kd.R_elder' (zr (Kd.R_mono (Kd.R_far (p := ⟨gb232, 1, none⟩) (Kd.R_far (p := ⟨gb232, 0, none⟩) (Kd.R_types HO216.out BK232.out (by decide)) (fun _ hk => hk.2) (.slice Ao59 t226.length co59)) (fun _ hk => hk.2) (.slice Ao64 t229.length co64)) (fun _ h_ => h_.1))) (Kd.R_base ho0) hb); replace HO220 := zm (Kd.R_elder' (zr (Kd.R_mono (Kd.R_far (p := ⟨gb232, 1, none⟩) (Kd.R_far (p := ⟨gb232, 0, none⟩) (Kd.R_types HO220.out BK232.out (by decide)) (fun _ hk => hk.2) (.slice Ao59 t226.length co59)) (fun _ hk => hk.2) (.slice Ao64 t229.length co64)) (fun _ h_ => h_.1))) (Kd.R_base ho0) hb); replace HO224 := zm (Kd.R_elder' (zr (Kd.R_mono (Kd.R_far (p := ⟨gb232, 1, none⟩) (Kd.R_far (p := ⟨gb232, 0, none⟩) (Kd.R_types HO224.out BK232.out (by decide)) (fun _ hk => hk.2) (.slice Ao59 t226.length co59)) (fun _ hk => hk.2) (.slice Ao64 t229.length co64)) (fun _ h_ => h_.1))) (Kd.R_base ho0) hb); replace HO228 := zm (Kd.R_elder' (zr (Kd.R_mono (Kd.R_far (p := ⟨gb232, 1, none⟩) (Kd.R_far (p := ⟨gb232, 0, none⟩) (Kd.R_types HO228.out BK232.out (by decide)) (fun _ hk => hk.2) (.slice Ao59 t226.length co59)) (fun _ hk => hk.2) (.slice Ao64 t229.length co64)) (fun _ h_ => h_.1))) (Kd.R_base ho0) hb); replace HO231 := zm (Kd.R_elder' (zr (Kd.R_mono (Kd.R_far (p := ⟨gb232, 1, none⟩) (Kd.R_far (p := ⟨gb232, 0, none⟩) (Kd.R_types HO231.out BK232.out (by decide)) (fun _ hk => hk.2) (.slice Ao59 t226.length co59)) (fun _ hk => hk.2) (.slice Ao64 t229.length co64)) (fun _ h_ => h_.1))) (Kd.R_base ho0) hb); replace BK207 := zm (blk_below (g := gb207) (o := .cells #[.slice A0_0 l0_0.length c0_0, .slice A0_1 l0_1.length c0_1] 36 (0, 0)) (by (with_reducible repeat (first | refine blk_drewN ?_ _ | refine blk_drew ?_ | refine blk_alloc ?_ _)); refine blk_far ?_ NB207_232.out _; (with_reducible repeat (first | refine blk_drewN ?_ _ | refine blk_drew ?_ | refine blk_alloc ?_ _)); refine blk_far ?_ NB207_232.out _; (with_reducible repeat (first | refine blk_drewN ?_ _ | refine blk_drew ?_ | refine blk_alloc ?_ _)); exact BK207.out) hb); replace BK208 := zm (blk_below (g := gb208) (o := .cells #[.int .i64 a1_0, .slice A1_1 l1_1.length c1_1] 47 (0, 0)) (by (with_reducible repeat (first | refine blk_drewN ?_ _ | refine blk_drew ?_ | refine blk_alloc ?_ _)); refine blk_far ?_ NB208_232.out _; (with_reducible repeat (first | refine blk_drewN ?_ _ | refine blk_drew ?_ | refine blk_alloc ?_ _)); refine blk_far ?_ NB208_232.out _; (with_reducible repeat (first | refine blk_drewN ?_ _ | refine blk_drew ?_ | refine blk_alloc ?_ _)); exact BK208.out) hb); replace BK225 := zm (blk_below (g := gb225) (o := .cells #[.int .i64 t221, .slice Ao53 t222.length co53] 50 (0, 0)) (by (with_reducible repeat (first | refine blk_drewN ?_ _ | refine blk_drew ?_ | refine blk_alloc ?_ _)); refine blk_far ?_ NB225_232.out _; (with_reducible repeat (first | refine blk_drewN ?_ _ | refine blk_drew ?_ | refine blk_alloc ?_ _)); refine blk_far ?_ NB225_232.out _; (with_reducible repeat (first | refine blk_drewN ?_ _ | refine blk_drew ?_ | refine blk_alloc ?_ _)); exact BK225.out) hb); replace BK232 := zm (blk_below (g := gb232) (o := .cells #[.slice Ao59 t226.length co59, .slice Ao64 t229.length co64] 39 (0, 0)) (by (with_reducible repeat (first | refine blk_drewN ?_ _ | refine blk_drew ?_ | refine blk_alloc ?_ _)); refine blk_put (cs := #[.slice Ao59 t226.length co59, .slice none 0 0]) ?_ 1 _ rfl; (with_reducible repeat (first | refine blk_drewN ?_ _ | refine blk_drew ?_ | refine blk_alloc ?_ _)); refine blk_put (cs := #[.slice none 0 0, .slice none 0 0]) ?_ 0 _ rfl; (with_reducible repeat (first | refine blk_drewN ?_ _ | refine blk_drew ?_ | refine blk_alloc ?_ _)); exact BK232.out) hb); replace HB := zm (below_step zl hb); (try clear hb); (try clear hb2); (try clear hk); (try clear hi); (try clear ho0)) | ((with_reducible refine gate_dst (N := 8) rfl ?_); refine box_event ?hg (N := 8) ?hd (cs := #[.int .i64 0, .slice none 0 0]) (t := 50) ?hr ?_; (case hd => rfl); (case hg => rfl); (case hr => first | (go_simp; done) | (go_simp; rfl)); intro gb237 hg w68 hbox hb; replace HO213 := zm (Kd.R_below (zr HO213.out) hb); replace HO216 := zm (Kd.R_below (zr HO216.out) hb); replace HO220 := zm (Kd.R_below (zr HO220.out) hb); replace HO224 := zm (Kd.R_below (zr HO224.out) hb); replace HO228 := zm (Kd.R_below (zr HO228.out) hb); replace HO231 := zm (Kd.R_below (zr HO231.out) hb); replace HO236 := zm (Kd.R_below (zr HO236.out) hb); have BK237 := zm (hbox); have GW237 := zm ((by rw [hg]; exact (below_size zl) : w.heap.size ≤ gb237)); have GE237 := zm ((by rw [hg]; exact (below_size zl) : w.heap.size ≤ gb237)); replace HB := zm (below_step zl hb); have NB207_237 := zm ((by rw [hg]; exact Nat.ne_of_lt (blk_lt (zb BK207.out)) : gb207 ≠ gb237)); have NB237_207 := zm ((by rw [hg]; exact Nat.ne_of_gt (blk_lt (zb BK207.out)) : gb237 ≠ gb207)); replace BK207 := zm (blk_below (zb BK207.out) hb); have NB208_237 := zm ((by rw [hg]; exact Nat.ne_of_lt (blk_lt (zb BK208.out)) : gb208 ≠ gb237)); have NB237_208 := zm ((by rw [hg]; exact Nat.ne_of_gt (blk_lt (zb BK208.out)) : gb237 ≠ gb208)); replace BK208 := zm (blk_below (zb BK208.out) hb); have NB225_237 := zm ((by rw [hg]; exact Nat.ne_of_lt (blk_lt (zb BK225.out)) : gb225 ≠ gb237)); have NB237_225 := zm ((by rw [hg]; exact Nat.ne_of_gt (blk_lt (zb BK225.out)) : gb237 ≠ gb225)); replace BK225 := zm (blk_below (zb BK225.out) hb); have NB232_237 := zm ((by rw [hg]; exact Nat.ne_of_lt (blk_lt (zb BK232.out)) : gb232 ≠ gb237)); have NB237_232 := zm ((by rw [hg]; exact Nat.ne_of_gt (blk_lt (zb BK232.out)) : gb237 ≠ gb232)); replace BK232 := zm (blk_below (zb BK232.out) hb); clear hb hbox hg; have hnb69 := NB237_207.out; have hnc69 := NB207_237.out; have hnb70 := NB237_208.out; have hnc70 := NB208_237.out; have hnb71 := NB237_225.out; have hnc71 := NB225_237.out; have hnb72 := NB237_232.out; have hnc72 := NB232_237.out; have hcz73_0 : w68.cell? ⟨gb237, 0, none⟩ = some (.int .i64 0) := (blk_cell BK237.out 0).trans rfl; have hcz73_1 : w68.cell? ⟨gb237, 1, none⟩ = some (.slice none 0 0) := (blk_cell BK237.out 1).trans rfl; have hfz73_0 := blk_frozen BK237.out 0; have hfz73_1 := blk_frozen BK237.out 1; obtain ⟨Ao74, co74, eo74⟩ := Kd.R_slice HO236.out; subst eo74; have hcz75_0 : w68.cell? ⟨gb232, 0, none⟩ = some (.slice Ao59 t226.length co59) := (blk_cell BK232.out 0).trans rfl; have hcz75_1 : w68.cell? ⟨gb232, 1, none⟩ = some (.slice Ao64 t229.length co64) := (blk_cell BK232.out 1).trans rfl; have hfz75_0 := blk_frozen BK232.out 0; have hfz75_1 := blk_frozen BK232.out 1) | ((with_reducible refine gate_callee (f := 38) rfl ?_); refine zg (some 35) Try.func38 #[.agg #[.slice Ao59 t226.length co59, .slice Ao64 t229.length co64], .agg #[.int .i64 t233, .slice Ao74 t234.length co74]] ?_; (with_reducible refine (impl_ApplyToFact.calls k _ _ t226 _ _ t229 t233 _ _ t234 t238 t239 _ ?side1 ?side2 ?side3 ?side4 ?side5 ?side6 A24.out).mono ?_); (case side1 => refine (Kd.R_reads' (e := 3) (base := w.heap.size) (ok := fun k_ => (((((some k_ ≠ (.slice Ao64 t229.length co64 : Value).ownBlock ∧ some k_ ≠ (v212 : Value).ownBlock) ∧ some k_ ≠ (v215 : Value).ownBlock) ∧ some k_ ≠ (v219 : Value).ownBlock) ∧ some k_ ≠ (.slice Ao53 t222.length co53 : Value).ownBlock) ∧ some k_ ≠ (.slice Ao74 t234.length co74 : Value).ownBlock)) (n := t226.length) (c := co59) ?_).2.2; exact (zr (Kd.R_mono (Kd.R_far (p := ⟨gb237, 1, none⟩) (Kd.R_far (p := ⟨gb237, 0, none⟩) (Kd.R_types HO228.out BK237.out (by decide)) (fun _ hk => hk.2) (.int .i64 t233)) (fun _ hk => hk.2) (.slice Ao74 t234.length co74)) (fun _ h_ => h_.1)))); (case side2 => exact (Kd.R_reads' HO228.out).2.1); (case side3 => refine (Kd.R_reads' (e := 3) (base := w.heap.size) (ok := fun k_ => (((((some k_ ≠ (.slice Ao59 t226.length co59 : Value).ownBlock ∧ some k_ ≠ (v212 : Value).ownBlock) ∧ some k_ ≠ (v215 : Value).ownBlock) ∧ some k_ ≠ (v219 : Value).ownBlock) ∧ some k_ ≠ (.slice Ao53 t222.length co53 : Value).ownBlock) ∧ some k_ ≠ (.slice Ao74 t234.length co74 : Value).ownBlock)) (n := t229.length) (c := co64) ?_).2.2; exact (zr (Kd.R_mono (Kd.R_far (p := ⟨gb237, 1, none⟩) (Kd.R_far (p := ⟨gb237, 0, none⟩) (Kd.R_types HO231.out BK237.out (by decide)) (fun _ hk => hk.2) (.int .i64 t233)) (fun _ hk => hk.2) (.slice Ao74 t234.length co74)) (fun _ h_ => h_.1)))); (case side4 => exact (Kd.R_reads' HO231.out).2.1); (case side5 => refine (Kd.R_reads' (e := 3) (base := w.heap.size) (ok := fun k_ => ((((((True ∧ some k_ ≠ (v212 : Value).ownBlock) ∧ some k_ ≠ (v215 : Value).ownBlock) ∧ some k_ ≠ (v219 : Value).ownBlock) ∧ some k_ ≠ (.slice Ao53 t222.length co53 : Value).ownBlock) ∧ some k_ ≠ (.slice Ao59 t226.length co59 : Value).ownBlock) ∧ some k_ ≠ (.slice Ao64 t229.length co64 : Value).ownBlock)) (n := t234.length) (c := co74) ?_).2.2; exact (zr (Kd.R_mono (Kd.R_far (p := ⟨gb237, 1, none⟩) (Kd.R_far (p := ⟨gb237, 0, none⟩) (Kd.R_types HO236.out BK237.out (by decide)) (fun _ hk => hk.2) (.int .i64 t233)) (fun _ hk => hk.2) (.slice Ao74 t234.length co74)) (fun _ h_ => h_.1)))); (case side6 => exact (Kd.R_reads' HO236.out).2.1); rintro e w76 ⟨v240, rfl, ho0, hb⟩; refine ⟨_, rfl, ?_⟩; have HO241 := zm (Kd.R_lower (Kd.R_new' (Kd.R_new' (Kd.R_new' (Kd.R_new' (Kd.R_new' (Kd.R_new' (Kd.R_new' ho0 (Kd.R_lt (zr (Kd.R_mono (Kd.R_far (p := ⟨gb237, 1, none⟩) (Kd.R_far (p := ⟨gb237, 0, none⟩) (Kd.R_types HO213.out BK237.out (by decide)) (fun _ hk => hk.2) (.int .i64 t233)) (fun _ hk => hk.2) (.slice Ao74 t234.length co74)) (fun _ h_ => h_.1))))) (Kd.R_lt (zr (Kd.R_mono (Kd.R_far (p := ⟨gb237, 1, none⟩) (Kd.R_far (p := ⟨gb237, 0, none⟩) (Kd.R_types HO216.out BK237.out (by decide)) (fun _ hk => hk.2) (.int .i64 t233)) (fun _ hk => hk.2) (.slice Ao74 t234.length co74)) (fun _ h_ => h_.1))))) (Kd.R_lt (zr (Kd.R_mono (Kd.R_far (p := ⟨gb237, 1, none⟩) (Kd.R_far (p := ⟨gb237, 0, none⟩) (Kd.R_types HO220.out BK237.out (by decide)) (fun _ hk => hk.2) (.int .i64 t233)) (fun _ hk => hk.2) (.slice Ao74 t234.length co74)) (fun _ h_ => h_.1))))) (Kd.R_lt (zr (Kd.R_mono (Kd.R_far (p := ⟨gb237, 1, none⟩) (Kd.R_far (p := ⟨gb237, 0, none⟩) (Kd.R_types HO224.out BK237.out (by decide)) (fun _ hk => hk.2) (.int .i64 t233)) (fun _ hk => hk.2) (.slice Ao74 t234.length co74)) (fun _ h_ => h_.1))))) (Kd.R_lt (zr (Kd.R_mono (Kd.R_far (p := ⟨gb237, 1, none⟩) (Kd.R_far (p := ⟨gb237, 0, none⟩) (Kd.R_types HO228.out BK237.out (by decide)) (fun _ hk => hk.2) (.int .i64 t233)) (fun _ hk => hk.2) (.slice Ao74 t234.length co74)) (fun _ h_ => h_.1))))) (Kd.R_lt (zr (Kd.R_mono (Kd.R_far (p := ⟨gb237, 1, none⟩) (Kd.R_far (p := ⟨gb237, 0, none⟩) (Kd.R_types HO231.out BK237.out (by decide)) (fun _ hk => hk.2) (.int .i64 t233)) (fun _ hk => hk.2) (.slice Ao74 t234.length co74)) (fun _ h_ => h_.1))))) (Kd.R_lt (zr (Kd.R_mono (Kd.R_far (p := ⟨gb237, 1, none⟩) (Kd.R_far (p := ⟨gb237, 0, none⟩) (Kd.R_types HO236.out BK237.out (by decide)) (fun _ hk => hk.2) (.int .i64 t233)) (fun _ hk => hk.2) (.slice Ao74 t234.length co74)) (fun _ h_ => h_.1))))) (below_size zl)); replace HO213 := zm (Kd.R_elder' (zr (Kd.R_mono (Kd.R_far (p := ⟨gb237, 1, none⟩) (Kd.R_far (p := ⟨gb237, 0, none⟩) (Kd.R_types HO213.out BK237.out (by decide)) (fun _ hk => hk.2) (.int .i64 t233)) (fun _ hk => hk.2) (.slice Ao74 t234.length co74)) (fun _ h_ => h_.1))) (Kd.R_base ho0) hb); replace HO216 := zm (Kd.R_elder' (zr (Kd.R_mono (Kd.R_far (p := ⟨gb237, 1, none⟩) (Kd.R_far (p := ⟨gb237, 0, none⟩) (Kd.R_types HO216.out BK237.out (by decide)) (fun _ hk => hk.2) (.int .i64 t233)) (fun _ hk => hk.2) (.slice Ao74 t234.length co74)) (fun _ h_ => h_.1))) (Kd.R_base ho0) hb); replace HO220 := zm (Kd.R_elder' (zr (Kd.R_mono (Kd.R_far (p := ⟨gb237, 1, none⟩) (Kd.R_far (p := ⟨gb237, 0, none⟩) (Kd.R_types HO220.out BK237.out (by decide)) (fun _ hk => hk.2) (.int .i64 t233)) (fun _ hk => hk.2) (.slice Ao74 t234.length co74)) (fun _ h_ => h_.1))) (Kd.R_base ho0) hb); replace HO224 := zm (Kd.R_elder' (zr (Kd.R_mono (Kd.R_far (p := ⟨gb237, 1, none⟩) (Kd.R_far (p := ⟨gb237, 0, none⟩) (Kd.R_types HO224.out BK237.out (by decide)) (fun _ hk => hk.2) (.int .i64 t233)) (fun _ hk => hk.2) (.slice Ao74 t234.length co74)) (fun _ h_ => h_.1))) (Kd.R_base ho0) hb); replace HO228 := zm (Kd.R_elder' (zr (Kd.R_mono (Kd.R_far (p := ⟨gb237, 1, none⟩) (Kd.R_far (p := ⟨gb237, 0, none⟩) (Kd.R_types HO228.out BK237.out (by decide)) (fun _ hk => hk.2) (.int .i64 t233)) (fun _ hk => hk.2) (.slice Ao74 t234.length co74)) (fun _ h_ => h_.1))) (Kd.R_base ho0) hb); replace HO231 := zm (Kd.R_elder' (zr (Kd.R_mono (Kd.R_far (p := ⟨gb237, 1, none⟩) (Kd.R_far (p := ⟨gb237, 0, none⟩) (Kd.R_types HO231.out BK237.out (by decide)) (fun _ hk => hk.2) (.int .i64 t233)) (fun _ hk => hk.2) (.slice Ao74 t234.length co74)) (fun _ h_ => h_.1))) (Kd.R_base ho0) hb); replace HO236 := zm (Kd.R_elder' (zr (Kd.R_mono (Kd.R_far (p := ⟨gb237, 1, none⟩) (Kd.R_far (p := ⟨gb237, 0, none⟩) (Kd.R_types HO236.out BK237.out (by decide)) (fun _ hk => hk.2) (.int .i64 t233)) (fun _ hk => hk.2) (.slice Ao74 t234.length co74)) (fun _ h_ => h_.1))) (Kd.R_base ho0) hb); replace BK207 := zm (blk_below (g := gb207) (o := .cells #[.slice A0_0 l0_0.length c0_0, .slice A0_1 l0_1.length c0_1] 36 (0, 0)) (by (with_reducible repeat (first | refine blk_drewN ?_ _ | refine blk_drew ?_ | refine blk_alloc ?_ _)); refine blk_far ?_ NB207_237.out _; (with_reducible repeat (first | refine blk_drewN ?_ _ | refine blk_drew ?_ | refine blk_alloc ?_ _)); refine blk_far ?_ NB207_237.out _; (with_reducible repeat (first | refine blk_drewN ?_ _ | refine blk_drew ?_ | refine blk_alloc ?_ _)); exact BK207.out) hb); replace BK208 := zm (blk_below (g := gb208) (o := .cells #[.int .i64 a1_0, .slice A1_1 l1_1.length c1_1] 47 (0, 0)) (by (with_reducible repeat (first | refine blk_drewN ?_ _ | refine blk_drew ?_ | refine blk_alloc ?_ _)); refine blk_far ?_ NB208_237.out _; (with_reducible repeat (first | refine blk_drewN ?_ _ | refine blk_drew ?_ | refine blk_alloc ?_ _)); refine blk_far ?_ NB208_237.out _; (with_reducible repeat (first | refine blk_drewN ?_ _ | refine blk_drew ?_ | refine blk_alloc ?_ _)); exact BK208.out) hb); replace BK225 := zm (blk_below (g := gb225) (o := .cells #[.int .i64 t221, .slice Ao53 t222.length co53] 50 (0, 0)) (by (with_reducible repeat (first | refine blk_drewN ?_ _ | refine blk_drew ?_ | refine blk_alloc ?_ _)); refine blk_far ?_ NB225_237.out _; (with_reducible repeat (first | refine blk_drewN ?_ _ | refine blk_drew ?_ | refine blk_alloc ?_ _)); refine blk_far ?_ NB225_237.out _; (with_reducible repeat (first | refine blk_drewN ?_ _ | refine blk_drew ?_ | refine blk_alloc ?_ _)); exact BK225.out) hb); replace BK232 := zm (blk_below (g := gb232) (o := .cells #[.slice Ao59 t226.length co59, .slice Ao64 t229.length co64] 39 (0, 0)) (by (with_reducible repeat (first | refine blk_drewN ?_ _ | refine blk_drew ?_ | refine blk_alloc ?_ _)); refine blk_far ?_ NB232_237.out _; (with_reducible repeat (first | refine blk_drewN ?_ _ | refine blk_drew ?_ | refine blk_alloc ?_ _)); refine blk_far ?_ NB232_237.out _; (with_reducible repeat (first | refine blk_drewN ?_ _ | refine blk_drew ?_ | refine blk_alloc ?_ _)); exact BK232.out) hb); replace BK237 := zm (blk_below (g := gb237) (o := .cells #[.int .i64 t233, .slice Ao74 t234.length co74] 50 (0, 0)) (by (with_reducible repeat (first | refine blk_drewN ?_ _ | refine blk_drew ?_ | refine blk_alloc ?_ _)); refine blk_put (cs := #[.int .i64 t233, .slice none 0 0]) ?_ 1 _ rfl; (with_reducible repeat (first | refine blk_drewN ?_ _ | refine blk_drew ?_ | refine blk_alloc ?_ _)); refine blk_put (cs := #[.int .i64 0, .slice none 0 0]) ?_ 0 _ rfl; (with_reducible repeat (first | refine blk_drewN ?_ _ | refine blk_drew ?_ | refine blk_alloc ?_ _)); exact BK237.out) hb); replace HB := zm (below_step zl hb); (try clear hb); (try clear hb2); (try clear hk); (try clear hi); (try clear ho0)) | ((with_reducible refine gate_dst (N := 9) rfl ?_); refine box_event ?hg (N := 9) ?hd (cs := #[.int .i64 0, .slice none 0 0]) (t := 50) ?hr ?_; (case hd => rfl); (case hg => rfl); (case hr => first | (go_simp; done) | (go_simp; rfl)); intro gb242 hg w77 hbox hb; replace HO213 := zm (Kd.R_below (zr HO213.out) hb); replace HO216 := zm (Kd.R_below (zr HO216.out) hb); replace HO220 := zm (Kd.R_below (zr HO220.out) hb); replace HO224 := zm (Kd.R_below (zr HO224.out) hb); replace HO228 := zm (Kd.R_below (zr HO228.out) hb); replace HO231 := zm (Kd.R_below (zr HO231.out) hb); replace HO236 := zm (Kd.R_below (zr HO236.out) hb); replace HO241 := zm (Kd.R_below (zr HO241.out) hb); have BK242 := zm (hbox); have GW242 := zm ((by rw [hg]; exact (below_size zl) : w.heap.size ≤ gb242)); have GE242 := zm ((by rw [hg]; exact (below_size zl) : w.heap.size ≤ gb242)); replace HB := zm (below_step zl hb); have NB207_242 := zm ((by rw [hg]; exact Nat.ne_of_lt (blk_lt (zb BK207.out)) : gb207 ≠ gb242)); have NB242_207 := zm ((by rw [hg]; exact Nat.ne_of_gt (blk_lt (zb BK207.out)) : gb242 ≠ gb207)); replace BK207 := zm (blk_below (zb BK207.out) hb); have NB208_242 := zm ((by rw [hg]; exact Nat.ne_of_lt (blk_lt (zb BK208.out)) : gb208 ≠ gb242)); have NB242_208 := zm ((by rw [hg]; exact Nat.ne_of_gt (blk_lt (zb BK208.out)) : gb242 ≠ gb208)); replace BK208 := zm (blk_below (zb BK208.out) hb); have NB225_242 := zm ((by rw [hg]; exact Nat.ne_of_lt (blk_lt (zb BK225.out)) : gb225 ≠ gb242)); have NB242_225 := zm ((by rw [hg]; exact Nat.ne_of_gt (blk_lt (zb BK225.out)) : gb242 ≠ gb225)); replace BK225 := zm (blk_below (zb BK225.out) hb); have NB232_242 := zm ((by rw [hg]; exact Nat.ne_of_lt (blk_lt (zb BK232.out)) : gb232 ≠ gb242)); have NB242_232 := zm ((by rw [hg]; exact Nat.ne_of_gt (blk_lt (zb BK232.out)) : gb242 ≠ gb232)); replace BK232 := zm (blk_below (zb BK232.out) hb); have NB237_242 := zm ((by rw [hg]; exact Nat.ne_of_lt (blk_lt (zb BK237.out)) : gb237 ≠ gb242)); have NB242_237 := zm ((by rw [hg]; exact Nat.ne_of_gt (blk_lt (zb BK237.out)) : gb242 ≠ gb237)); replace BK237 := zm (blk_below (zb BK237.out) hb); clear hb hbox hg; have hnb78 := NB242_207.out; have hnc78 := NB207_242.out; have hnb79 := NB242_208.out; have hnc79 := NB208_242.out; have hnb80 := NB242_225.out; have hnc80 := NB225_242.out; have hnb81 := NB242_232.out; have hnc81 := NB232_242.out; have hnb82 := NB242_237.out; have hnc82 := NB237_242.out; have hcz83_0 : w77.cell? ⟨gb242, 0, none⟩ = some (.int .i64 0) := (blk_cell BK242.out 0).trans rfl; have hcz83_1 : w77.cell? ⟨gb242, 1, none⟩ = some (.slice none 0 0) := (blk_cell BK242.out 1).trans rfl; have hfz83_0 := blk_frozen BK242.out 0; have hfz83_1 := blk_frozen BK242.out 1; obtain ⟨Ao84, co84, eo84⟩ := Kd.R_slice HO241.out; subst eo84; have hcz85_0 : w77.cell? ⟨gb225, 0, none⟩ = some (.int .i64 t221) := (blk_cell BK225.out 0).trans rfl; have hcz85_1 : w77.cell? ⟨gb225, 1, none⟩ = some (.slice Ao53 t222.length co53) := (blk_cell BK225.out 1).trans rfl; have hfz85_0 := blk_frozen BK225.out 0; have hfz85_1 := blk_frozen BK225.out 1) | ((with_reducible refine gate_callee (f := 34) rfl ?_); refine zg (some 38) Try.func34 #[.agg #[.int .i64 t238, .slice Ao84 t239.length co84], .agg #[.int .i64 t221, .slice Ao53 t222.length co53]] ?_; (with_reducible refine (laws_eqFact.calls k t238 _ _ t239 t221 _ _ t222 true _ ?side1 ?side2 ?side3 ?side4 A25.out).mono ?_); (case side1 => refine (Kd.R_reads' (e := 3) (base := w.heap.size) (ok := fun k_ => (((((((True ∧ some k_ ≠ (v212 : Value).ownBlock) ∧ some k_ ≠ (v215 : Value).ownBlock) ∧ some k_ ≠ (v219 : Value).ownBlock) ∧ some k_ ≠ (.slice Ao53 t222.length co53 : Value).ownBlock) ∧ some k_ ≠ (.slice Ao59 t226.length co59 : Value).ownBlock) ∧ some k_ ≠ (.slice Ao64 t229.length co64 : Value).ownBlock) ∧ some k_ ≠ (.slice Ao74 t234.length co74 : Value).ownBlock)) (n := t239.length) (c := co84) ?_).2.2; exact (zr (Kd.R_mono (Kd.R_far (p := ⟨gb242, 1, none⟩) (Kd.R_far (p := ⟨gb242, 0, none⟩) (Kd.R_types HO241.out BK242.out (by decide)) (fun _ hk => hk.2) (.int .i64 t238)) (fun _ hk => hk.2) (.slice Ao84 t239.length co84)) (fun _ h_ => h_.1)))); (case side2 => exact (Kd.R_reads' HO241.out).2.1); (case side3 => refine (Kd.R_reads' (e := 3) (base := w.heap.size) (ok := fun k_ => (((((some k_ ≠ (v212 : Value).ownBlock ∧ (some k_ ≠ (v215 : Value).ownBlock ∧ some k_ ≠ (v219 : Value).ownBlock)) ∧ some k_ ≠ (.slice Ao59 t226.length co59 : Value).ownBlock) ∧ some k_ ≠ (.slice Ao64 t229.length co64 : Value).ownBlock) ∧ some k_ ≠ (.slice Ao74 t234.length co74 : Value).ownBlock) ∧ some k_ ≠ (.slice Ao84 t239.length co84 : Value).ownBlock)) (n := t222.length) (c := co53) ?_).2.2; exact (zr (Kd.R_mono (Kd.R_far (p := ⟨gb242, 1, none⟩) (Kd.R_far (p := ⟨gb242, 0, none⟩) (Kd.R_types HO224.out BK242.out (by decide)) (fun _ hk => hk.2) (.int .i64 t238)) (fun _ hk => hk.2) (.slice Ao84 t239.length co84)) (fun _ h_ => h_.1)))); (case side4 => exact (Kd.R_reads' HO224.out).2.1); rintro e w86 ⟨rfl, hb⟩; refine ⟨_, rfl, ?_⟩; replace HO213 := zm (Kd.R_below (zr (Kd.R_mono (Kd.R_far (p := ⟨gb242, 1, none⟩) (Kd.R_far (p := ⟨gb242, 0, none⟩) (Kd.R_types HO213.out BK242.out (by decide)) (fun _ hk => hk.2) (.int .i64 t238)) (fun _ hk => hk.2) (.slice Ao84 t239.length co84)) (fun _ h_ => h_.1))) hb); replace HO216 := zm (Kd.R_below (zr (Kd.R_mono (Kd.R_far (p := ⟨gb242, 1, none⟩) (Kd.R_far (p := ⟨gb242, 0, none⟩) (Kd.R_types HO216.out BK242.out (by decide)) (fun _ hk => hk.2) (.int .i64 t238)) (fun _ hk => hk.2) (.slice Ao84 t239.length co84)) (fun _ h_ => h_.1))) hb); replace HO220 := zm (Kd.R_below (zr (Kd.R_mono (Kd.R_far (p := ⟨gb242, 1, none⟩) (Kd.R_far (p := ⟨gb242, 0, none⟩) (Kd.R_types HO220.out BK242.out (by decide)) (fun _ hk => hk.2) (.int .i64 t238)) (fun _ hk => hk.2) (.slice Ao84 t239.length co84)) (fun _ h_ => h_.1))) hb); replace HO224 := zm (Kd.R_below (zr (Kd.R_mono (Kd.R_far (p := ⟨gb242, 1, none⟩) (Kd.R_far (p := ⟨gb242, 0, none⟩) (Kd.R_types HO224.out BK242.out (by decide)) (fun _ hk => hk.2) (.int .i64 t238)) (fun _ hk => hk.2) (.slice Ao84 t239.length co84)) (fun _ h_ => h_.1))) hb); replace HO228 := zm (Kd.R_below (zr (Kd.R_mono (Kd.R_far (p := ⟨gb242, 1, none⟩) (Kd.R_far (p := ⟨gb242, 0, none⟩) (Kd.R_types HO228.out BK242.out (by decide)) (fun _ hk => hk.2) (.int .i64 t238)) (fun _ hk => hk.2) (.slice Ao84 t239.length co84)) (fun _ h_ => h_.1))) hb); replace HO231 := zm (Kd.R_below (zr (Kd.R_mono (Kd.R_far (p := ⟨gb242, 1, none⟩) (Kd.R_far (p := ⟨gb242, 0, none⟩) (Kd.R_types HO231.out BK242.out (by decide)) (fun _ hk => hk.2) (.int .i64 t238)) (fun _ hk => hk.2) (.slice Ao84 t239.length co84)) (fun _ h_ => h_.1))) hb); replace HO236 := zm (Kd.R_below (zr (Kd.R_mono (Kd.R_far (p := ⟨gb242, 1, none⟩) (Kd.R_far (p := ⟨gb242, 0, none⟩) (Kd.R_types HO236.out BK242.out (by decide)) (fun _ hk => hk.2) (.int .i64 t238)) (fun _ hk => hk.2) (.slice Ao84 t239.length co84)) (fun _ h_ => h_.1))) hb); replace HO241 := zm (Kd.R_below (zr (Kd.R_mono (Kd.R_far (p := ⟨gb242, 1, none⟩) (Kd.R_far (p := ⟨gb242, 0, none⟩) (Kd.R_types HO241.out BK242.out (by decide)) (fun _ hk => hk.2) (.int .i64 t238)) (fun _ hk => hk.2) (.slice Ao84 t239.length co84)) (fun _ h_ => h_.1))) hb); replace BK207 := zm (blk_below (g := gb207) (o := .cells #[.slice A0_0 l0_0.length c0_0, .slice A0_1 l0_1.length c0_1] 36 (0, 0)) (by (with_reducible repeat (first | refine blk_drewN ?_ _ | refine blk_drew ?_ | refine blk_alloc ?_ _)); refine blk_far ?_ NB207_242.out _; (with_reducible repeat (first | refine blk_drewN ?_ _ | refine blk_drew ?_ | refine blk_alloc ?_ _)); refine blk_far ?_ NB207_242.out _; (with_reducible repeat (first | refine blk_drewN ?_ _ | refine blk_drew ?_ | refine blk_alloc ?_ _)); exact BK207.out) hb); replace BK208 := zm (blk_below (g := gb208) (o := .cells #[.int .i64 a1_0, .slice A1_1 l1_1.length c1_1] 47 (0, 0)) (by (with_reducible repeat (first | refine blk_drewN ?_ _ | refine blk_drew ?_ | refine blk_alloc ?_ _)); refine blk_far ?_ NB208_242.out _; (with_reducible repeat (first | refine blk_drewN ?_ _ | refine blk_drew ?_ | refine blk_alloc ?_ _)); refine blk_far ?_ NB208_242.out _; (with_reducible repeat (first | refine blk_drewN ?_ _ | refine blk_drew ?_ | refine blk_alloc ?_ _)); exact BK208.out) hb); replace BK225 := zm (blk_below (g := gb225) (o := .cells #[.int .i64 t221, .slice Ao53 t222.length co53] 50 (0, 0)) (by (with_reducible repeat (first | refine blk_drewN ?_ _ | refine blk_drew ?_ | refine blk_alloc ?_ _)); refine blk_far ?_ NB225_242.out _; (with_reducible repeat (first | refine blk_drewN ?_ _ | refine blk_drew ?_ | refine blk_alloc ?_ _)); refine blk_far ?_ NB225_242.out _; (with_reducible repeat (first | refine blk_drewN ?_ _ | refine blk_drew ?_ | refine blk_alloc ?_ _)); exact BK225.out) hb); replace BK232 := zm (blk_below (g := gb232) (o := .cells #[.slice Ao59 t226.length co59, .slice Ao64 t229.length co64] 39 (0, 0)) (by (with_reducible repeat (first | refine blk_drewN ?_ _ | refine blk_drew ?_ | refine blk_alloc ?_ _)); refine blk_far ?_ NB232_242.out _; (with_reducible repeat (first | refine blk_drewN ?_ _ | refine blk_drew ?_ | refine blk_alloc ?_ _)); refine blk_far ?_ NB232_242.out _; (with_reducible repeat (first | refine blk_drewN ?_ _ | refine blk_drew ?_ | refine blk_alloc ?_ _)); exact BK232.out) hb); replace BK237 := zm (blk_below (g := gb237) (o := .cells #[.int .i64 t233, .slice Ao74 t234.length co74] 50 (0, 0)) (by (with_reducible repeat (first | refine blk_drewN ?_ _ | refine blk_drew ?_ | refine blk_alloc ?_ _)); refine blk_far ?_ NB237_242.out _; (with_reducible repeat (first | refine blk_drewN ?_ _ | refine blk_drew ?_ | refine blk_alloc ?_ _)); refine blk_far ?_ NB237_242.out _; (with_reducible repeat (first | refine blk_drewN ?_ _ | refine blk_drew ?_ | refine blk_alloc ?_ _)); exact BK237.out) hb); replace BK242 := zm (blk_below (g := gb242) (o := .cells #[.int .i64 t238, .slice Ao84 t239.length co84] 50 (0, 0)) (by (with_reducible repeat (first | refine blk_drewN ?_ _ | refine blk_drew ?_ | refine blk_alloc ?_ _)); refine blk_put (cs := #[.int .i64 t238, .slice none 0 0]) ?_ 1 _ rfl; (with_reducible repeat (first | refine blk_drewN ?_ _ | refine blk_drew ?_ | refine blk_alloc ?_ _)); refine blk_put (cs := #[.int .i64 0, .slice none 0 0]) ?_ 0 _ rfl; (with_reducible repeat (first | refine blk_drewN ?_ _ | refine blk_drew ?_ | refine blk_alloc ?_ _)); exact BK242.out) hb); replace HB := zm (below_step zl hb); (try clear hb); (try clear hb2); (try clear hk); (try clear hi)))
            replace HO213 := zm (Kd.R_drew HO213.out)
            replace HO216 := zm (Kd.R_drew HO216.out)
            replace HO220 := zm (Kd.R_drew HO220.out)
            replace HO224 := zm (Kd.R_drew HO224.out)
            replace HO228 := zm (Kd.R_drew HO228.out)
            replace HO231 := zm (Kd.R_drew HO231.out)
            replace HO236 := zm (Kd.R_drew HO236.out)
            replace HO241 := zm (Kd.R_drew HO241.out)
            replace BK207 := zm (blk_drew BK207.out)
            replace BK208 := zm (blk_drew BK208.out)
            replace BK225 := zm (blk_drew BK225.out)
            replace BK232 := zm (blk_drew BK232.out)
            replace BK237 := zm (blk_drew BK237.out)
            replace BK242 := zm (blk_drew BK242.out)
            replace HB := zm (below_drew1 HB.out)
            refine start_ (n := 5) (S := fun w' => w'.cell? ⟨gb232, 0, none⟩ = some (.slice Ao59 t226.length co59) ∧ w'.cell? ⟨gb232, 1, none⟩ = some (.slice Ao64 t229.length co64) ∧ w'.cell? ⟨gb207, 0, none⟩ = some (.slice A0_0 l0_0.length c0_0) ∧ w'.cell? ⟨gb207, 1, none⟩ = some (.slice A0_1 l0_1.length c0_1)) (ds := []) #[false, false, false, false, false] (by kernel_rfl) rfl rfl ⟨(blk_cell BK232.out 0).trans rfl, (blk_cell BK232.out 1).trans rfl, (blk_cell BK207.out 0).trans rfl, (blk_cell BK207.out 1).trans rfl⟩ (fun hHeld => ?_)
            generalize w86.drew = w87 at HO213 HO216 HO220 HO224 HO228 HO231 HO236 HO241 BK207 BK208 BK225 BK232 BK237 BK242 HB hHeld ⊢
            refine take_ (i := 0) (N := some 40) (v := ?_) (a' := ?_) #[true, false, false, false, false] rfl rfl (by kernel_rfl) (fun _ _ _ h => h) (Or.inl ⟨by rfl, ?_⟩) hHeld ?_ ?_
            rotate_left
            · rintro w' ⟨s0, s1, s2, s3⟩
              go_simp
              with_reducible rfl
            rotate_left
            · simp only [Act.put, List.setIfInBounds_toArray, List.set_cons_zero, List.set_cons_succ, i64_w, i32_w]
              rfl
            refine take_ (i := 1) (N := some 41) (v := ?_) (a' := ?_) #[true, true, false, false, false] rfl rfl (by kernel_rfl) (fun _ _ _ h => h) (Or.inl ⟨by rfl, ?_⟩) hHeld ?_ ?_
            rotate_left
            · rintro w' ⟨s0, s1, s2, s3⟩
              go_simp
              with_reducible rfl
            rotate_left
            · simp only [Act.put, List.setIfInBounds_toArray, List.set_cons_zero, List.set_cons_succ, i64_w, i32_w]
              rfl
            refine one_ (i := 2) (N := some 42) #[true, true, true, false, false] rfl rfl (by kernel_rfl) (by decide) (fun K hK => ?_)
            refine goes_ Try.func23 (by kernel_rfl) rfl #[.agg #[.slice A0_0 l0_0.length c0_0, .slice A0_1 l0_1.length c0_1]] (by rfl) rfl rfl (by (try simp only [List.map_toArray, List.map_cons, List.map_nil]); first | done | rfl | (simp only [List.length_drop, List.length_take]; rfl)) ?_
            with_reducible refine (laws_toSubstitution.calls k _ _ l0_0 _ _ l0_1 t244 t247 _ ?side1 ?side2 ?side3 ?side4 A27.out).mono ?_
            (case side1 => exact zc HR0_0.out)
            (case side2 => exact HC0_0.out)
            (case side3 => exact zc HR0_1.out)
            (case side4 => exact HC0_1.out)
            rintro e w88 ⟨v245, v248, rfl, ho0, ho1, hb⟩
            refine ⟨_, rfl, ?_⟩
            have HO246 := zm (Kd.R_lower (Kd.R_new' (Kd.R_new' (Kd.R_new' (Kd.R_new' (Kd.R_new' (Kd.R_new' (Kd.R_new' (Kd.R_new' ho0 (Kd.R_lt (zr HO213.out))) (Kd.R_lt (zr HO216.out))) (Kd.R_lt (zr HO220.out))) (Kd.R_lt (zr HO224.out))) (Kd.R_lt (zr HO228.out))) (Kd.R_lt (zr HO231.out))) (Kd.R_lt (zr HO236.out))) (Kd.R_lt (zr HO241.out))) (below_size zl))
            have HO249 := zm (Kd.R_lower (Kd.R_new' (Kd.R_new' (Kd.R_new' (Kd.R_new' (Kd.R_new' (Kd.R_new' (Kd.R_new' (Kd.R_new' ho1 (Kd.R_lt (zr HO213.out))) (Kd.R_lt (zr HO216.out))) (Kd.R_lt (zr HO220.out))) (Kd.R_lt (zr HO224.out))) (Kd.R_lt (zr HO228.out))) (Kd.R_lt (zr HO231.out))) (Kd.R_lt (zr HO236.out))) (Kd.R_lt (zr HO241.out))) (below_size zl))
            replace HO213 := zm (Kd.R_mono (Kd.R_told (Kd.R_told (Kd.R_old (zr HO213.out) hb) (Kd.R_base ho0)) (Kd.R_base ho1)) (fun _ h_ => h_.1))
            replace HO216 := zm (Kd.R_mono (Kd.R_told (Kd.R_told (Kd.R_old (zr HO216.out) hb) (Kd.R_base ho0)) (Kd.R_base ho1)) (fun _ h_ => h_.1))
            replace HO220 := zm (Kd.R_mono (Kd.R_told (Kd.R_told (Kd.R_old (zr HO220.out) hb) (Kd.R_base ho0)) (Kd.R_base ho1)) (fun _ h_ => h_.1))
            replace HO224 := zm (Kd.R_mono (Kd.R_told (Kd.R_told (Kd.R_old (zr HO224.out) hb) (Kd.R_base ho0)) (Kd.R_base ho1)) (fun _ h_ => h_.1))
            replace HO228 := zm (Kd.R_mono (Kd.R_told (Kd.R_told (Kd.R_old (zr HO228.out) hb) (Kd.R_base ho0)) (Kd.R_base ho1)) (fun _ h_ => h_.1))
            replace HO231 := zm (Kd.R_mono (Kd.R_told (Kd.R_told (Kd.R_old (zr HO231.out) hb) (Kd.R_base ho0)) (Kd.R_base ho1)) (fun _ h_ => h_.1))
            replace HO236 := zm (Kd.R_mono (Kd.R_told (Kd.R_told (Kd.R_old (zr HO236.out) hb) (Kd.R_base ho0)) (Kd.R_base ho1)) (fun _ h_ => h_.1))
            replace HO241 := zm (Kd.R_mono (Kd.R_told (Kd.R_told (Kd.R_old (zr HO241.out) hb) (Kd.R_base ho0)) (Kd.R_base ho1)) (fun _ h_ => h_.1))
            replace BK207 := zm (blk_below (zb BK207.out) hb)
            replace BK208 := zm (blk_below (zb BK208.out) hb)
            replace BK225 := zm (blk_below (zb BK225.out) hb)
            replace BK232 := zm (blk_below (zb BK232.out) hb)
            replace BK237 := zm (blk_below (zb BK237.out) hb)
            replace BK242 := zm (blk_below (zb BK242.out) hb)
            replace HB := zm (below_step zl hb)
            (try clear hb)
            (try clear hb2)
            (try clear hk)
            (try clear hi)
            (try clear ho0)
            (try clear ho1)
            obtain ⟨Ao89, co89, eo89⟩ := Kd.R_slice HO246.out
            (first | subst eo89 | (injection eo89 with f1_ f2_ f3_; have f4_ := f1_.symm; have f5_ := f3_.symm; clear f1_ f2_ f3_; subst f4_; subst f5_))
            obtain ⟨Ao90, co90, eo90⟩ := Kd.R_slice HO249.out
            (first | subst eo90 | (injection eo90 with f1_ f2_ f3_; have f4_ := f1_.symm; have f5_ := f3_.symm; clear f1_ f2_ f3_; subst f4_; subst f5_))
            refine hK.out _ _ ⟨(blk_cell BK232.out 0).trans rfl, (blk_cell BK232.out 1).trans rfl, (blk_cell BK207.out 0).trans rfl, (blk_cell BK207.out 1).trans rfl⟩ (fun hHeld => ?_)
            clear hK K
            refine norm_ (a' := ?_) ?_ ?_
            rotate_left
            · show Act.put _ (some 42) _ = _
              simp only [Act.put, List.setIfInBounds_toArray, List.set_cons_zero, List.set_cons_succ, i64_w, i32_w]
              rfl
            refine one_ (i := 3) (N := some 43) #[true, true, true, true, false] rfl rfl (by kernel_rfl) (by decide) (fun K hK => ?_)
            refine goes_ Try.func25 (by kernel_rfl) rfl #[.agg #[.slice Ao59 t226.length co59, .slice Ao64 t229.length co64], .agg #[.slice Ao89 t244.length co89, .slice Ao90 t247.length co90]] (by rfl) rfl rfl (by (try simp only [List.map_toArray, List.map_cons, List.map_nil]); first | done | rfl | (simp only [List.length_drop, List.length_take]; rfl)) ?_
            with_reducible refine (laws_eqSubstitution.calls k _ _ t226 _ _ t229 _ _ t244 _ _ t247 true _ ?side1 ?side2 ?side3 ?side4 ?side5 ?side6 ?side7 ?side8 A28.out).mono ?_
            (case side1 => repeat (first | exact (Kd.R_reads' HO228.out).2.2 | (with_reducible refine Kd.C_alloc ?_ _) | (with_reducible refine Kd.C_drewN ?_ _) | (with_reducible refine Kd.C_drew ?_)))
            (case side2 => exact (Kd.R_reads' HO228.out).2.1)
            (case side3 => repeat (first | exact (Kd.R_reads' HO231.out).2.2 | (with_reducible refine Kd.C_alloc ?_ _) | (with_reducible refine Kd.C_drewN ?_ _) | (with_reducible refine Kd.C_drew ?_)))
            (case side4 => exact (Kd.R_reads' HO231.out).2.1)
            (case side5 => repeat (first | exact (Kd.R_reads' HO246.out).2.2 | (with_reducible refine Kd.C_alloc ?_ _) | (with_reducible refine Kd.C_drewN ?_ _) | (with_reducible refine Kd.C_drew ?_)))
            (case side6 => exact (Kd.R_reads' HO246.out).2.1)
            (case side7 => repeat (first | exact (Kd.R_reads' HO249.out).2.2 | (with_reducible refine Kd.C_alloc ?_ _) | (with_reducible refine Kd.C_drewN ?_ _) | (with_reducible refine Kd.C_drew ?_)))
            (case side8 => exact (Kd.R_reads' HO249.out).2.1)
            rintro e w91 ⟨rfl, hb⟩
            refine ⟨_, rfl, ?_⟩
            replace HO213 := zm (Kd.R_below (zr HO213.out) hb)
            replace HO216 := zm (Kd.R_below (zr HO216.out) hb)
            replace HO220 := zm (Kd.R_below (zr HO220.out) hb)
            replace HO224 := zm (Kd.R_below (zr HO224.out) hb)
            replace HO228 := zm (Kd.R_below (zr HO228.out) hb)
            replace HO231 := zm (Kd.R_below (zr HO231.out) hb)
            replace HO236 := zm (Kd.R_below (zr HO236.out) hb)
            replace HO241 := zm (Kd.R_below (zr HO241.out) hb)
            replace HO246 := zm (Kd.R_below (zr HO246.out) hb)
            replace HO249 := zm (Kd.R_below (zr HO249.out) hb)
            replace BK207 := zm (blk_below (zb BK207.out) hb)
            replace BK208 := zm (blk_below (zb BK208.out) hb)
            replace BK225 := zm (blk_below (zb BK225.out) hb)
            replace BK232 := zm (blk_below (zb BK232.out) hb)
            replace BK237 := zm (blk_below (zb BK237.out) hb)
            replace BK242 := zm (blk_below (zb BK242.out) hb)
            replace HB := zm (below_step zl hb)
            (try clear hb)
            (try clear hb2)
            (try clear hk)
            (try clear hi)
            refine hK.out _ _ ⟨(blk_cell BK232.out 0).trans rfl, (blk_cell BK232.out 1).trans rfl, (blk_cell BK207.out 0).trans rfl, (blk_cell BK207.out 1).trans rfl⟩ (fun hHeld => ?_)
            clear hK K
            refine norm_ (a' := ?_) ?_ ?_
            rotate_left
            · show Act.put _ (some 43) _ = _
              simp only [Act.put, List.setIfInBounds_toArray, List.set_cons_zero, List.set_cons_succ, i64_w, i32_w]
              rfl
            refine pure_ (i := 4) (N := some 44) (v := ?_) (a' := ?_) #[true, true, true, true, true] rfl rfl (by kernel_rfl) (fun _ _ _ h => h) (Or.inl ⟨by rfl, ?_⟩) ?_ ?_
            rotate_left
            · intro w'
              go_simp
              with_reducible rfl
            rotate_left
            · simp only [Act.put, List.setIfInBounds_toArray, List.set_cons_zero, List.set_cons_succ, i64_w, i32_w]
              rfl
            refine done_ (by kernel_rfl) ?_
            try go_wp2
            replace HO213 := zm (Kd.R_drew HO213.out)
            replace HO216 := zm (Kd.R_drew HO216.out)
            replace HO220 := zm (Kd.R_drew HO220.out)
            replace HO224 := zm (Kd.R_drew HO224.out)
            replace HO228 := zm (Kd.R_drew HO228.out)
            replace HO231 := zm (Kd.R_drew HO231.out)
            replace HO236 := zm (Kd.R_drew HO236.out)
            replace HO241 := zm (Kd.R_drew HO241.out)
            replace HO246 := zm (Kd.R_drew HO246.out)
            replace HO249 := zm (Kd.R_drew HO249.out)
            replace BK207 := zm (blk_drew BK207.out)
            replace BK208 := zm (blk_drew BK208.out)
            replace BK225 := zm (blk_drew BK225.out)
            replace BK232 := zm (blk_drew BK232.out)
            replace BK237 := zm (blk_drew BK237.out)
            replace BK242 := zm (blk_drew BK242.out)
            replace HB := zm (below_drew1 HB.out)
            refine start_ (n := 5) (S := fun w' => w'.cell? ⟨gb237, 0, none⟩ = some (.int .i64 t233) ∧ w'.cell? ⟨gb237, 1, none⟩ = some (.slice Ao74 t234.length co74) ∧ w'.cell? ⟨gb208, 0, none⟩ = some (.int .i64 a1_0) ∧ w'.cell? ⟨gb208, 1, none⟩ = some (.slice A1_1 l1_1.length c1_1)) (ds := []) #[false, false, false, false, false] (by kernel_rfl) rfl rfl ⟨(blk_cell BK237.out 0).trans rfl, (blk_cell BK237.out 1).trans rfl, (blk_cell BK208.out 0).trans rfl, (blk_cell BK208.out 1).trans rfl⟩ (fun hHeld => ?_)
            generalize w91.drew = w92 at HO213 HO216 HO220 HO224 HO228 HO231 HO236 HO241 HO246 HO249 BK207 BK208 BK225 BK232 BK237 BK242 HB hHeld ⊢
            refine take_ (i := 0) (N := some 45) (v := ?_) (a' := ?_) #[true, false, false, false, false] rfl rfl (by kernel_rfl) (fun _ _ _ h => h) (Or.inl ⟨by rfl, ?_⟩) hHeld ?_ ?_
            rotate_left
            · rintro w' ⟨s0, s1, s2, s3⟩
              go_simp
              with_reducible rfl
            rotate_left
            · simp only [Act.put, List.setIfInBounds_toArray, List.set_cons_zero, List.set_cons_succ, i64_w, i32_w]
              rfl
            refine take_ (i := 1) (N := some 46) (v := ?_) (a' := ?_) #[true, true, false, false, false] rfl rfl (by kernel_rfl) (fun _ _ _ h => h) (Or.inl ⟨by rfl, ?_⟩) hHeld ?_ ?_
            rotate_left
            · rintro w' ⟨s0, s1, s2, s3⟩
              go_simp
              with_reducible rfl
            rotate_left
            · simp only [Act.put, List.setIfInBounds_toArray, List.set_cons_zero, List.set_cons_succ, i64_w, i32_w]
              rfl
            refine one_ (i := 2) (N := some 47) #[true, true, true, false, false] rfl rfl (by kernel_rfl) (by decide) (fun K hK => ?_)
            refine goes_ Try.func32 (by kernel_rfl) rfl #[.agg #[.int .i64 a1_0, .slice A1_1 l1_1.length c1_1]] (by rfl) rfl rfl (by (try simp only [List.map_toArray, List.map_cons, List.map_nil]); first | done | rfl | (simp only [List.length_drop, List.length_take]; rfl)) ?_
            with_reducible refine (laws_toFact.calls k a1_0 _ _ l1_1 t251 t252 _ ?side1 ?side2 A30.out).mono ?_
            (case side1 => exact zc HR1_1.out)
            (case side2 => exact HC1_1.out)
            rintro e w93 ⟨v253, rfl, ho0, hb⟩
            refine ⟨_, rfl, ?_⟩
            have HO254 := zm (Kd.R_lower (Kd.R_new' (Kd.R_new' (Kd.R_new' (Kd.R_new' (Kd.R_new' (Kd.R_new' (Kd.R_new' (Kd.R_new' (Kd.R_new' (Kd.R_new' ho0 (Kd.R_lt (zr HO213.out))) (Kd.R_lt (zr HO216.out))) (Kd.R_lt (zr HO220.out))) (Kd.R_lt (zr HO224.out))) (Kd.R_lt (zr HO228.out))) (Kd.R_lt (zr HO231.out))) (Kd.R_lt (zr HO236.out))) (Kd.R_lt (zr HO241.out))) (Kd.R_lt (zr HO246.out))) (Kd.R_lt (zr HO249.out))) (below_size zl))
            replace HO213 := zm (Kd.R_elder' (zr HO213.out) (Kd.R_base ho0) hb)
            replace HO216 := zm (Kd.R_elder' (zr HO216.out) (Kd.R_base ho0) hb)
            replace HO220 := zm (Kd.R_elder' (zr HO220.out) (Kd.R_base ho0) hb)
            replace HO224 := zm (Kd.R_elder' (zr HO224.out) (Kd.R_base ho0) hb)
            replace HO228 := zm (Kd.R_elder' (zr HO228.out) (Kd.R_base ho0) hb)
            replace HO231 := zm (Kd.R_elder' (zr HO231.out) (Kd.R_base ho0) hb)
            replace HO236 := zm (Kd.R_elder' (zr HO236.out) (Kd.R_base ho0) hb)
            replace HO241 := zm (Kd.R_elder' (zr HO241.out) (Kd.R_base ho0) hb)
            replace HO246 := zm (Kd.R_elder' (zr HO246.out) (Kd.R_base ho0) hb)
            replace HO249 := zm (Kd.R_elder' (zr HO249.out) (Kd.R_base ho0) hb)
            replace BK207 := zm (blk_below (zb BK207.out) hb)
            replace BK208 := zm (blk_below (zb BK208.out) hb)
            replace BK225 := zm (blk_below (zb BK225.out) hb)
            replace BK232 := zm (blk_below (zb BK232.out) hb)
            replace BK237 := zm (blk_below (zb BK237.out) hb)
            replace BK242 := zm (blk_below (zb BK242.out) hb)
            replace HB := zm (below_step zl hb)
            (try clear hb)
            (try clear hb2)
            (try clear hk)
            (try clear hi)
            (try clear ho0)
            obtain ⟨Ao94, co94, eo94⟩ := Kd.R_slice HO254.out
            (first | subst eo94 | (injection eo94 with f1_ f2_ f3_; have f4_ := f1_.symm; have f5_ := f3_.symm; clear f1_ f2_ f3_; subst f4_; subst f5_))
            refine hK.out _ _ ⟨(blk_cell BK237.out 0).trans rfl, (blk_cell BK237.out 1).trans rfl, (blk_cell BK208.out 0).trans rfl, (blk_cell BK208.out 1).trans rfl⟩ (fun hHeld => ?_)
            clear hK K
            refine norm_ (a' := ?_) ?_ ?_
            rotate_left
            · show Act.put _ (some 47) _ = _
              simp only [Act.put, List.setIfInBounds_toArray, List.set_cons_zero, List.set_cons_succ, i64_w, i32_w]
              rfl
            refine one_ (i := 3) (N := some 48) #[true, true, true, true, false] rfl rfl (by kernel_rfl) (by decide) (fun K hK => ?_)
            refine goes_ Try.func34 (by kernel_rfl) rfl #[.agg #[.int .i64 t233, .slice Ao74 t234.length co74], .agg #[.int .i64 t251, .slice Ao94 t252.length co94]] (by rfl) rfl rfl (by (try simp only [List.map_toArray, List.map_cons, List.map_nil]); first | done | rfl | (simp only [List.length_drop, List.length_take]; rfl)) ?_
            with_reducible refine (laws_eqFact.calls k t233 _ _ t234 t251 _ _ t252 true _ ?side1 ?side2 ?side3 ?side4 A31.out).mono ?_
            (case side1 => repeat (first | exact (Kd.R_reads' HO236.out).2.2 | (with_reducible refine Kd.C_alloc ?_ _) | (with_reducible refine Kd.C_drewN ?_ _) | (with_reducible refine Kd.C_drew ?_)))
            (case side2 => exact (Kd.R_reads' HO236.out).2.1)
            (case side3 => repeat (first | exact (Kd.R_reads' HO254.out).2.2 | (with_reducible refine Kd.C_alloc ?_ _) | (with_reducible refine Kd.C_drewN ?_ _) | (with_reducible refine Kd.C_drew ?_)))
            (case side4 => exact (Kd.R_reads' HO254.out).2.1)
            rintro e w95 ⟨rfl, hb⟩
            refine ⟨_, rfl, ?_⟩
            replace HO213 := zm (Kd.R_below (zr HO213.out) hb)
            replace HO216 := zm (Kd.R_below (zr HO216.out) hb)
            replace HO220 := zm (Kd.R_below (zr HO220.out) hb)
            replace HO224 := zm (Kd.R_below (zr HO224.out) hb)
            replace HO228 := zm (Kd.R_below (zr HO228.out) hb)
            replace HO231 := zm (Kd.R_below (zr HO231.out) hb)
            replace HO236 := zm (Kd.R_below (zr HO236.out) hb)
            replace HO241 := zm (Kd.R_below (zr HO241.out) hb)
            replace HO246 := zm (Kd.R_below (zr HO246.out) hb)
            replace HO249 := zm (Kd.R_below (zr HO249.out) hb)
            replace HO254 := zm (Kd.R_below (zr HO254.out) hb)
            replace BK207 := zm (blk_below (zb BK207.out) hb)
            replace BK208 := zm (blk_below (zb BK208.out) hb)
            replace BK225 := zm (blk_below (zb BK225.out) hb)
            replace BK232 := zm (blk_below (zb BK232.out) hb)
            replace BK237 := zm (blk_below (zb BK237.out) hb)
            replace BK242 := zm (blk_below (zb BK242.out) hb)
            replace HB := zm (below_step zl hb)
            (try clear hb)
            (try clear hb2)
            (try clear hk)
            (try clear hi)
            refine hK.out _ _ ⟨(blk_cell BK237.out 0).trans rfl, (blk_cell BK237.out 1).trans rfl, (blk_cell BK208.out 0).trans rfl, (blk_cell BK208.out 1).trans rfl⟩ (fun hHeld => ?_)
            clear hK K
            refine norm_ (a' := ?_) ?_ ?_
            rotate_left
            · show Act.put _ (some 48) _ = _
              simp only [Act.put, List.setIfInBounds_toArray, List.set_cons_zero, List.set_cons_succ, i64_w, i32_w]
              rfl
            refine pure_ (i := 4) (N := some 49) (v := ?_) (a' := ?_) #[true, true, true, true, true] rfl rfl (by kernel_rfl) (fun _ _ _ h => h) (Or.inl ⟨by rfl, ?_⟩) ?_ ?_
            rotate_left
            · intro w'
              go_simp
              with_reducible rfl
            rotate_left
            · simp only [Act.put, List.setIfInBounds_toArray, List.set_cons_zero, List.set_cons_succ, i64_w, i32_w]
              rfl
            refine done_ (by kernel_rfl) ?_
            have hcz96_0 : w95.cell? ⟨gb232, 0, none⟩ = some (.slice Ao59 t226.length co59) := (blk_cell BK232.out 0).trans rfl
            have hcz96_1 : w95.cell? ⟨gb232, 1, none⟩ = some (.slice Ao64 t229.length co64) := (blk_cell BK232.out 1).trans rfl
            have hfz96_0 := blk_frozen BK232.out 0
            have hfz96_1 := blk_frozen BK232.out 1
            go_upto_region 21 with (first | ((with_reducible refine gate_callee (f := 39) rfl ?_); refine zg (some 52) Try.func39 #[.agg #[.slice Ao59 t226.length co59, .slice Ao64 t229.length co64], .int .i64 1] ?_; (with_reducible refine (laws_markSubstitution.calls k (fun k_ => some k_ = (.slice Ao59 t226.length co59 : Value).ownBlock) (.slice Ao59 t226.length co59) t226 (fun k_ => some k_ = (.slice Ao64 t229.length co64 : Value).ownBlock) (.slice Ao64 t229.length co64) t229 1 t256 t257 t258 w _ ?side1 ?side2 ?side3 ?side4 ?side5 A33.out).mono ?_); (case side1 => exact zl); (case side2 => exact Kd.R_tight rfl HO228.out); (case side3 => exact fun k_ e_ => (HO228.out.1 k_ e_.symm).1.1.1.1.1.1.1.1.1); (case side4 => exact Kd.R_tight rfl HO231.out); (case side5 => exact fun k_ e_ => (HO231.out.1 k_ e_.symm).1.1.1.1.1.1.1.1.1); rintro e w97 ⟨rfl, hy0, hy1, hb, hkp⟩; refine ⟨_, rfl, ?_⟩; replace BK207 := zm (blk_kept (zb BK207.out) hkp (fun hs_ => Or.elim hs_ (fun e_ => (fun e_ => (Kd.R_ne HO228.out BK207.out (by decide)) e_) e_) (fun e_ => (fun e_ => (Kd.R_ne HO231.out BK207.out (by decide)) e_) e_))); replace BK208 := zm (blk_kept (zb BK208.out) hkp (fun hs_ => Or.elim hs_ (fun e_ => (fun e_ => (Kd.R_ne HO228.out BK208.out (by decide)) e_) e_) (fun e_ => (fun e_ => (Kd.R_ne HO231.out BK208.out (by decide)) e_) e_))); replace HO213 := zm (Kd.R_mono (ok' := fun k_ => some k_ ≠ (v215 : Value).ownBlock ∧ some k_ ≠ (v219 : Value).ownBlock ∧ some k_ ≠ (.slice Ao53 t222.length co53 : Value).ownBlock ∧ some k_ ≠ (.slice Ao59 t226.length co59 : Value).ownBlock ∧ some k_ ≠ (.slice Ao64 t229.length co64 : Value).ownBlock ∧ some k_ ≠ (.slice Ao74 t234.length co74 : Value).ownBlock ∧ some k_ ≠ (.slice Ao84 t239.length co84 : Value).ownBlock ∧ some k_ ≠ (.slice Ao89 t244.length co89 : Value).ownBlock ∧ some k_ ≠ (.slice Ao90 t247.length co90 : Value).ownBlock ∧ some k_ ≠ (.slice Ao94 t252.length co94 : Value).ownBlock) (Kd.R_keptB (HO213.out) hkp (fun k_ hk_ hs_ => Or.elim hs_ (fun e_ => (hk_.1.1.1.1.1.1.2) e_) (fun e_ => (hk_.1.1.1.1.1.2) e_))) (fun k_ hk_ => ⟨hk_.1.1.1.1.1.1.1.1.1, hk_.1.1.1.1.1.1.1.1.2.1, hk_.1.1.1.1.1.1.1.1.2.2, hk_.1.1.1.1.1.1.1.2, hk_.1.1.1.1.1.1.2, hk_.1.1.1.1.1.2, hk_.1.1.1.1.2, hk_.1.1.1.2, hk_.1.1.2, hk_.1.2⟩)); replace HO216 := zm (Kd.R_mono (ok' := fun k_ => some k_ ≠ (v212 : Value).ownBlock ∧ some k_ ≠ (v219 : Value).ownBlock ∧ some k_ ≠ (.slice Ao53 t222.length co53 : Value).ownBlock ∧ some k_ ≠ (.slice Ao59 t226.length co59 : Value).ownBlock ∧ some k_ ≠ (.slice Ao64 t229.length co64 : Value).ownBlock ∧ some k_ ≠ (.slice Ao74 t234.length co74 : Value).ownBlock ∧ some k_ ≠ (.slice Ao84 t239.length co84 : Value).ownBlock ∧ some k_ ≠ (.slice Ao89 t244.length co89 : Value).ownBlock ∧ some k_ ≠ (.slice Ao90 t247.length co90 : Value).ownBlock ∧ some k_ ≠ (.slice Ao94 t252.length co94 : Value).ownBlock) (Kd.R_keptB (HO216.out) hkp (fun k_ hk_ hs_ => Or.elim hs_ (fun e_ => (hk_.1.1.1.1.1.1.2) e_) (fun e_ => (hk_.1.1.1.1.1.2) e_))) (fun k_ hk_ => ⟨hk_.1.1.1.1.1.1.1.1.1, hk_.1.1.1.1.1.1.1.1.2.1, hk_.1.1.1.1.1.1.1.1.2.2, hk_.1.1.1.1.1.1.1.2, hk_.1.1.1.1.1.1.2, hk_.1.1.1.1.1.2, hk_.1.1.1.1.2, hk_.1.1.1.2, hk_.1.1.2, hk_.1.2⟩)); replace HO220 := zm (Kd.R_mono (ok' := fun k_ => some k_ ≠ (v212 : Value).ownBlock ∧ some k_ ≠ (v215 : Value).ownBlock ∧ some k_ ≠ (.slice Ao53 t222.length co53 : Value).ownBlock ∧ some k_ ≠ (.slice Ao59 t226.length co59 : Value).ownBlock ∧ some k_ ≠ (.slice Ao64 t229.length co64 : Value).ownBlock ∧ some k_ ≠ (.slice Ao74 t234.length co74 : Value).ownBlock ∧ some k_ ≠ (.slice Ao84 t239.length co84 : Value).ownBlock ∧ some k_ ≠ (.slice Ao89 t244.length co89 : Value).ownBlock ∧ some k_ ≠ (.slice Ao90 t247.length co90 : Value).ownBlock ∧ some k_ ≠ (.slice Ao94 t252.length co94 : Value).ownBlock) (Kd.R_keptB (HO220.out) hkp (fun k_ hk_ hs_ => Or.elim hs_ (fun e_ => (hk_.1.1.1.1.1.1.2) e_) (fun e_ => (hk_.1.1.1.1.1.2) e_))) (fun k_ hk_ => ⟨hk_.1.1.1.1.1.1.1.1.1, hk_.1.1.1.1.1.1.1.1.2.1, hk_.1.1.1.1.1.1.1.1.2.2, hk_.1.1.1.1.1.1.1.2, hk_.1.1.1.1.1.1.2, hk_.1.1.1.1.1.2, hk_.1.1.1.1.2, hk_.1.1.1.2, hk_.1.1.2, hk_.1.2⟩)); replace HO224 := zm (Kd.R_mono (ok' := fun k_ => some k_ ≠ (v212 : Value).ownBlock ∧ some k_ ≠ (v215 : Value).ownBlock ∧ some k_ ≠ (v219 : Value).ownBlock ∧ some k_ ≠ (.slice Ao59 t226.length co59 : Value).ownBlock ∧ some k_ ≠ (.slice Ao64 t229.length co64 : Value).ownBlock ∧ some k_ ≠ (.slice Ao74 t234.length co74 : Value).ownBlock ∧ some k_ ≠ (.slice Ao84 t239.length co84 : Value).ownBlock ∧ some k_ ≠ (.slice Ao89 t244.length co89 : Value).ownBlock ∧ some k_ ≠ (.slice Ao90 t247.length co90 : Value).ownBlock ∧ some k_ ≠ (.slice Ao94 t252.length co94 : Value).ownBlock) (Kd.R_keptB (HO224.out) hkp (fun k_ hk_ hs_ => Or.elim hs_ (fun e_ => (hk_.1.1.1.1.1.1.2) e_) (fun e_ => (hk_.1.1.1.1.1.2) e_))) (fun k_ hk_ => ⟨hk_.1.1.1.1.1.1.1.1.1, hk_.1.1.1.1.1.1.1.1.2.1, hk_.1.1.1.1.1.1.1.1.2.2, hk_.1.1.1.1.1.1.1.2, hk_.1.1.1.1.1.1.2, hk_.1.1.1.1.1.2, hk_.1.1.1.1.2, hk_.1.1.1.2, hk_.1.1.2, hk_.1.2⟩)); replace BK225 := zm (blk_kept (zb BK225.out) hkp (fun hs_ => Or.elim hs_ (fun e_ => (fun e_ => (Kd.R_ne HO228.out BK225.out (by decide)) e_) e_) (fun e_ => (fun e_ => (Kd.R_ne HO231.out BK225.out (by decide)) e_) e_))); replace BK232 := zm (blk_kept (zb BK232.out) hkp (fun hs_ => Or.elim hs_ (fun e_ => (fun e_ => (Kd.R_ne HO228.out BK232.out (by decide)) e_) e_) (fun e_ => (fun e_ => (Kd.R_ne HO231.out BK232.out (by decide)) e_) e_))); replace HO236 := zm (Kd.R_mono (ok' := fun k_ => some k_ ≠ (v212 : Value).ownBlock ∧ some k_ ≠ (v215 : Value).ownBlock ∧ some k_ ≠ (v219 : Value).ownBlock ∧ some k_ ≠ (.slice Ao53 t222.length co53 : Value).ownBlock ∧ some k_ ≠ (.slice Ao59 t226.length co59 : Value).ownBlock ∧ some k_ ≠ (.slice Ao64 t229.length co64 : Value).ownBlock ∧ some k_ ≠ (.slice Ao84 t239.length co84 : Value).ownBlock ∧ some k_ ≠ (.slice Ao89 t244.length co89 : Value).ownBlock ∧ some k_ ≠ (.slice Ao90 t247.length co90 : Value).ownBlock ∧ some k_ ≠ (.slice Ao94 t252.length co94 : Value).ownBlock) (Kd.R_keptB (HO236.out) hkp (fun k_ hk_ hs_ => Or.elim hs_ (fun e_ => (hk_.1.1.1.1.1.2) e_) (fun e_ => (hk_.1.1.1.1.2) e_))) (fun k_ hk_ => ⟨hk_.1.1.1.1.1.1.1.1.1.1.2, hk_.1.1.1.1.1.1.1.1.1.2, hk_.1.1.1.1.1.1.1.1.2, hk_.1.1.1.1.1.1.1.2, hk_.1.1.1.1.1.1.2, hk_.1.1.1.1.1.2, hk_.1.1.1.1.2, hk_.1.1.1.2, hk_.1.1.2, hk_.1.2⟩)); replace BK237 := zm (blk_kept (zb BK237.out) hkp (fun hs_ => Or.elim hs_ (fun e_ => (fun e_ => (Kd.R_ne HO228.out BK237.out (by decide)) e_) e_) (fun e_ => (fun e_ => (Kd.R_ne HO231.out BK237.out (by decide)) e_) e_))); replace HO241 := zm (Kd.R_mono (ok' := fun k_ => some k_ ≠ (v212 : Value).ownBlock ∧ some k_ ≠ (v215 : Value).ownBlock ∧ some k_ ≠ (v219 : Value).ownBlock ∧ some k_ ≠ (.slice Ao53 t222.length co53 : Value).ownBlock ∧ some k_ ≠ (.slice Ao59 t226.length co59 : Value).ownBlock ∧ some k_ ≠ (.slice Ao64 t229.length co64 : Value).ownBlock ∧ some k_ ≠ (.slice Ao74 t234.length co74 : Value).ownBlock ∧ some k_ ≠ (.slice Ao89 t244.length co89 : Value).ownBlock ∧ some k_ ≠ (.slice Ao90 t247.length co90 : Value).ownBlock ∧ some k_ ≠ (.slice Ao94 t252.length co94 : Value).ownBlock) (Kd.R_keptB (HO241.out) hkp (fun k_ hk_ hs_ => Or.elim hs_ (fun e_ => (hk_.1.1.1.1.1.2) e_) (fun e_ => (hk_.1.1.1.1.2) e_))) (fun k_ hk_ => ⟨hk_.1.1.1.1.1.1.1.1.1.1.2, hk_.1.1.1.1.1.1.1.1.1.2, hk_.1.1.1.1.1.1.1.1.2, hk_.1.1.1.1.1.1.1.2, hk_.1.1.1.1.1.1.2, hk_.1.1.1.1.1.2, hk_.1.1.1.1.2, hk_.1.1.1.2, hk_.1.1.2, hk_.1.2⟩)); replace BK242 := zm (blk_kept (zb BK242.out) hkp (fun hs_ => Or.elim hs_ (fun e_ => (fun e_ => (Kd.R_ne HO228.out BK242.out (by decide)) e_) e_) (fun e_ => (fun e_ => (Kd.R_ne HO231.out BK242.out (by decide)) e_) e_))); replace HO228 := zm (Kd.R_reok rfl hy0 (fun k_ e_ => HO228.out.1 k_ e_)); replace HO231 := zm (Kd.R_reok rfl hy1 (fun k_ e_ => HO231.out.1 k_ e_)); replace HO246 := zm (Kd.R_mono (ok' := fun k_ => some k_ ≠ (v212 : Value).ownBlock ∧ some k_ ≠ (v215 : Value).ownBlock ∧ some k_ ≠ (v219 : Value).ownBlock ∧ some k_ ≠ (.slice Ao53 t222.length co53 : Value).ownBlock ∧ some k_ ≠ (.slice Ao59 t226.length co59 : Value).ownBlock ∧ some k_ ≠ (.slice Ao64 t229.length co64 : Value).ownBlock ∧ some k_ ≠ (.slice Ao74 t234.length co74 : Value).ownBlock ∧ some k_ ≠ (.slice Ao84 t239.length co84 : Value).ownBlock ∧ some k_ ≠ (.slice Ao90 t247.length co90 : Value).ownBlock ∧ some k_ ≠ (.slice Ao94 t252.length co94 : Value).ownBlock) (Kd.R_keptB (HO246.out) hkp (fun k_ hk_ hs_ => Or.elim hs_ (fun e_ => (hk_.1.1.1.1.2) e_) (fun e_ => (hk_.1.1.1.2) e_))) (fun k_ hk_ => ⟨hk_.1.1.1.1.1.1.1.1.1.2, hk_.1.1.1.1.1.1.1.1.2, hk_.1.1.1.1.1.1.1.2, hk_.1.1.1.1.1.1.2, hk_.1.1.1.1.1.2, hk_.1.1.1.1.2, hk_.1.1.1.2, hk_.1.1.2, hk_.1.1.1.1.1.1.1.1.1.1, hk_.1.2⟩)); replace HO249 := zm (Kd.R_mono (ok' := fun k_ => some k_ ≠ (v212 : Value).ownBlock ∧ some k_ ≠ (v215 : Value).ownBlock ∧ some k_ ≠ (v219 : Value).ownBlock ∧ some k_ ≠ (.slice Ao53 t222.length co53 : Value).ownBlock ∧ some k_ ≠ (.slice Ao59 t226.length co59 : Value).ownBlock ∧ some k_ ≠ (.slice Ao64 t229.length co64 : Value).ownBlock ∧ some k_ ≠ (.slice Ao74 t234.length co74 : Value).ownBlock ∧ some k_ ≠ (.slice Ao84 t239.length co84 : Value).ownBlock ∧ some k_ ≠ (.slice Ao89 t244.length co89 : Value).ownBlock ∧ some k_ ≠ (.slice Ao94 t252.length co94 : Value).ownBlock) (Kd.R_keptB (HO249.out) hkp (fun k_ hk_ hs_ => Or.elim hs_ (fun e_ => (hk_.1.1.1.1.2) e_) (fun e_ => (hk_.1.1.1.2) e_))) (fun k_ hk_ => ⟨hk_.1.1.1.1.1.1.1.1.1.2, hk_.1.1.1.1.1.1.1.1.2, hk_.1.1.1.1.1.1.1.2, hk_.1.1.1.1.1.1.2, hk_.1.1.1.1.1.2, hk_.1.1.1.1.2, hk_.1.1.1.2, hk_.1.1.2, hk_.1.1.1.1.1.1.1.1.1.1, hk_.1.2⟩)); replace HO254 := zm (Kd.R_mono (ok' := fun k_ => some k_ ≠ (v212 : Value).ownBlock ∧ some k_ ≠ (v215 : Value).ownBlock ∧ some k_ ≠ (v219 : Value).ownBlock ∧ some k_ ≠ (.slice Ao53 t222.length co53 : Value).ownBlock ∧ some k_ ≠ (.slice Ao59 t226.length co59 : Value).ownBlock ∧ some k_ ≠ (.slice Ao64 t229.length co64 : Value).ownBlock ∧ some k_ ≠ (.slice Ao74 t234.length co74 : Value).ownBlock ∧ some k_ ≠ (.slice Ao84 t239.length co84 : Value).ownBlock ∧ some k_ ≠ (.slice Ao89 t244.length co89 : Value).ownBlock ∧ some k_ ≠ (.slice Ao90 t247.length co90 : Value).ownBlock) (Kd.R_keptB (HO254.out) hkp (fun k_ hk_ hs_ => Or.elim hs_ (fun e_ => (hk_.1.1.1.1.1.2) e_) (fun e_ => (hk_.1.1.1.1.2) e_))) (fun k_ hk_ => ⟨hk_.1.1.1.1.1.1.1.1.1.1.2, hk_.1.1.1.1.1.1.1.1.1.2, hk_.1.1.1.1.1.1.1.1.2, hk_.1.1.1.1.1.1.1.2, hk_.1.1.1.1.1.1.2, hk_.1.1.1.1.1.2, hk_.1.1.1.1.2, hk_.1.1.1.2, hk_.1.1.2, hk_.1.2⟩)); replace HB := zm (hb); (try clear hb); (try clear hkp); (try clear hy0); (try clear hy1); have hcz98_0 : w97.cell? ⟨gb237, 0, none⟩ = some (.int .i64 t233) := (blk_cell BK237.out 0).trans rfl; have hcz98_1 : w97.cell? ⟨gb237, 1, none⟩ = some (.slice Ao74 t234.length co74) := (blk_cell BK237.out 1).trans rfl; have hfz98_0 := blk_frozen BK237.out 0; have hfz98_1 := blk_frozen BK237.out 1) | ((with_reducible refine gate_callee (f := 40) rfl ?_); refine zg (some 55) Try.func40 #[.agg #[.int .i64 t233, .slice Ao74 t234.length co74], .int .i64 t256] ?_; (with_reducible refine (laws_markFact.calls k t233 (fun k_ => some k_ = (.slice Ao74 t234.length co74 : Value).ownBlock) (.slice Ao74 t234.length co74) t234 t256 t259 t260 w _ ?side1 ?side2 A34.out).mono ?_); (case side1 => exact zl); (case side2 => exact Kd.R_tight rfl HO236.out); rintro e w99 ⟨rfl, hy0, hb, hkp⟩; refine ⟨_, rfl, ?_⟩; replace BK207 := zm (blk_kept (zb BK207.out) hkp (fun hs_ => (fun e_ => (Kd.R_ne HO236.out BK207.out (by decide)) e_) hs_)); replace BK208 := zm (blk_kept (zb BK208.out) hkp (fun hs_ => (fun e_ => (Kd.R_ne HO236.out BK208.out (by decide)) e_) hs_)); replace HO213 := zm (Kd.R_mono (ok' := fun k_ => some k_ ≠ (v215 : Value).ownBlock ∧ some k_ ≠ (v219 : Value).ownBlock ∧ some k_ ≠ (.slice Ao53 t222.length co53 : Value).ownBlock ∧ some k_ ≠ (.slice Ao59 t226.length co59 : Value).ownBlock ∧ some k_ ≠ (.slice Ao64 t229.length co64 : Value).ownBlock ∧ some k_ ≠ (.slice Ao74 t234.length co74 : Value).ownBlock ∧ some k_ ≠ (.slice Ao84 t239.length co84 : Value).ownBlock ∧ some k_ ≠ (.slice Ao89 t244.length co89 : Value).ownBlock ∧ some k_ ≠ (.slice Ao90 t247.length co90 : Value).ownBlock ∧ some k_ ≠ (.slice Ao94 t252.length co94 : Value).ownBlock) (Kd.R_keptB (HO213.out) hkp (fun k_ hk_ hs_ => (hk_.2.2.2.2.2.1) hs_)) (fun k_ hk_ => ⟨hk_.1.1, hk_.1.2.1, hk_.1.2.2.1, hk_.1.2.2.2.1, hk_.1.2.2.2.2.1, hk_.1.2.2.2.2.2.1, hk_.1.2.2.2.2.2.2.1, hk_.1.2.2.2.2.2.2.2.1, hk_.1.2.2.2.2.2.2.2.2.1, hk_.1.2.2.2.2.2.2.2.2.2⟩)); replace HO216 := zm (Kd.R_mono (ok' := fun k_ => some k_ ≠ (v212 : Value).ownBlock ∧ some k_ ≠ (v219 : Value).ownBlock ∧ some k_ ≠ (.slice Ao53 t222.length co53 : Value).ownBlock ∧ some k_ ≠ (.slice Ao59 t226.length co59 : Value).ownBlock ∧ some k_ ≠ (.slice Ao64 t229.length co64 : Value).ownBlock ∧ some k_ ≠ (.slice Ao74 t234.length co74 : Value).ownBlock ∧ some k_ ≠ (.slice Ao84 t239.length co84 : Value).ownBlock ∧ some k_ ≠ (.slice Ao89 t244.length co89 : Value).ownBlock ∧ some k_ ≠ (.slice Ao90 t247.length co90 : Value).ownBlock ∧ some k_ ≠ (.slice Ao94 t252.length co94 : Value).ownBlock) (Kd.R_keptB (HO216.out) hkp (fun k_ hk_ hs_ => (hk_.2.2.2.2.2.1) hs_)) (fun k_ hk_ => ⟨hk_.1.1, hk_.1.2.1, hk_.1.2.2.1, hk_.1.2.2.2.1, hk_.1.2.2.2.2.1, hk_.1.2.2.2.2.2.1, hk_.1.2.2.2.2.2.2.1, hk_.1.2.2.2.2.2.2.2.1, hk_.1.2.2.2.2.2.2.2.2.1, hk_.1.2.2.2.2.2.2.2.2.2⟩)); replace HO220 := zm (Kd.R_mono (ok' := fun k_ => some k_ ≠ (v212 : Value).ownBlock ∧ some k_ ≠ (v215 : Value).ownBlock ∧ some k_ ≠ (.slice Ao53 t222.length co53 : Value).ownBlock ∧ some k_ ≠ (.slice Ao59 t226.length co59 : Value).ownBlock ∧ some k_ ≠ (.slice Ao64 t229.length co64 : Value).ownBlock ∧ some k_ ≠ (.slice Ao74 t234.length co74 : Value).ownBlock ∧ some k_ ≠ (.slice Ao84 t239.length co84 : Value).ownBlock ∧ some k_ ≠ (.slice Ao89 t244.length co89 : Value).ownBlock ∧ some k_ ≠ (.slice Ao90 t247.length co90 : Value).ownBlock ∧ some k_ ≠ (.slice Ao94 t252.length co94 : Value).ownBlock) (Kd.R_keptB (HO220.out) hkp (fun k_ hk_ hs_ => (hk_.2.2.2.2.2.1) hs_)) (fun k_ hk_ => ⟨hk_.1.1, hk_.1.2.1, hk_.1.2.2.1, hk_.1.2.2.2.1, hk_.1.2.2.2.2.1, hk_.1.2.2.2.2.2.1, hk_.1.2.2.2.2.2.2.1, hk_.1.2.2.2.2.2.2.2.1, hk_.1.2.2.2.2.2.2.2.2.1, hk_.1.2.2.2.2.2.2.2.2.2⟩)); replace HO224 := zm (Kd.R_mono (ok' := fun k_ => some k_ ≠ (v212 : Value).ownBlock ∧ some k_ ≠ (v215 : Value).ownBlock ∧ some k_ ≠ (v219 : Value).ownBlock ∧ some k_ ≠ (.slice Ao59 t226.length co59 : Value).ownBlock ∧ some k_ ≠ (.slice Ao64 t229.length co64 : Value).ownBlock ∧ some k_ ≠ (.slice Ao74 t234.length co74 : Value).ownBlock ∧ some k_ ≠ (.slice Ao84 t239.length co84 : Value).ownBlock ∧ some k_ ≠ (.slice Ao89 t244.length co89 : Value).ownBlock ∧ some k_ ≠ (.slice Ao90 t247.length co90 : Value).ownBlock ∧ some k_ ≠ (.slice Ao94 t252.length co94 : Value).ownBlock) (Kd.R_keptB (HO224.out) hkp (fun k_ hk_ hs_ => (hk_.2.2.2.2.2.1) hs_)) (fun k_ hk_ => ⟨hk_.1.1, hk_.1.2.1, hk_.1.2.2.1, hk_.1.2.2.2.1, hk_.1.2.2.2.2.1, hk_.1.2.2.2.2.2.1, hk_.1.2.2.2.2.2.2.1, hk_.1.2.2.2.2.2.2.2.1, hk_.1.2.2.2.2.2.2.2.2.1, hk_.1.2.2.2.2.2.2.2.2.2⟩)); replace BK225 := zm (blk_kept (zb BK225.out) hkp (fun hs_ => (fun e_ => (Kd.R_ne HO236.out BK225.out (by decide)) e_) hs_)); replace HO228 := zm (Kd.R_mono (ok' := fun k_ => some k_ ≠ (v212 : Value).ownBlock ∧ some k_ ≠ (v215 : Value).ownBlock ∧ some k_ ≠ (v219 : Value).ownBlock ∧ some k_ ≠ (.slice Ao53 t222.length co53 : Value).ownBlock ∧ some k_ ≠ (.slice Ao64 t229.length co64 : Value).ownBlock ∧ some k_ ≠ (.slice Ao74 t234.length co74 : Value).ownBlock ∧ some k_ ≠ (.slice Ao84 t239.length co84 : Value).ownBlock ∧ some k_ ≠ (.slice Ao89 t244.length co89 : Value).ownBlock ∧ some k_ ≠ (.slice Ao90 t247.length co90 : Value).ownBlock ∧ some k_ ≠ (.slice Ao94 t252.length co94 : Value).ownBlock) (Kd.R_keptB (HO228.out) hkp (fun k_ hk_ hs_ => (hk_.1.1.1.1.2) hs_)) (fun k_ hk_ => ⟨hk_.1.1.1.1.1.1.1.1.1.2, hk_.1.1.1.1.1.1.1.1.2, hk_.1.1.1.1.1.1.1.2, hk_.1.1.1.1.1.1.2, hk_.1.1.1.1.1.1.1.1.1.1, hk_.1.1.1.1.1.2, hk_.1.1.1.1.2, hk_.1.1.1.2, hk_.1.1.2, hk_.1.2⟩)); replace HO231 := zm (Kd.R_mono (ok' := fun k_ => some k_ ≠ (v212 : Value).ownBlock ∧ some k_ ≠ (v215 : Value).ownBlock ∧ some k_ ≠ (v219 : Value).ownBlock ∧ some k_ ≠ (.slice Ao53 t222.length co53 : Value).ownBlock ∧ some k_ ≠ (.slice Ao59 t226.length co59 : Value).ownBlock ∧ some k_ ≠ (.slice Ao74 t234.length co74 : Value).ownBlock ∧ some k_ ≠ (.slice Ao84 t239.length co84 : Value).ownBlock ∧ some k_ ≠ (.slice Ao89 t244.length co89 : Value).ownBlock ∧ some k_ ≠ (.slice Ao90 t247.length co90 : Value).ownBlock ∧ some k_ ≠ (.slice Ao94 t252.length co94 : Value).ownBlock) (Kd.R_keptB (HO231.out) hkp (fun k_ hk_ hs_ => (hk_.1.1.1.1.2) hs_)) (fun k_ hk_ => ⟨hk_.1.1.1.1.1.1.1.1.1.2, hk_.1.1.1.1.1.1.1.1.2, hk_.1.1.1.1.1.1.1.2, hk_.1.1.1.1.1.1.2, hk_.1.1.1.1.1.1.1.1.1.1, hk_.1.1.1.1.1.2, hk_.1.1.1.1.2, hk_.1.1.1.2, hk_.1.1.2, hk_.1.2⟩)); replace BK232 := zm (blk_kept (zb BK232.out) hkp (fun hs_ => (fun e_ => (Kd.R_ne HO236.out BK232.out (by decide)) e_) hs_)); replace BK237 := zm (blk_kept (zb BK237.out) hkp (fun hs_ => (fun e_ => (Kd.R_ne HO236.out BK237.out (by decide)) e_) hs_)); replace HO241 := zm (Kd.R_mono (ok' := fun k_ => some k_ ≠ (v212 : Value).ownBlock ∧ some k_ ≠ (v215 : Value).ownBlock ∧ some k_ ≠ (v219 : Value).ownBlock ∧ some k_ ≠ (.slice Ao53 t222.length co53 : Value).ownBlock ∧ some k_ ≠ (.slice Ao59 t226.length co59 : Value).ownBlock ∧ some k_ ≠ (.slice Ao64 t229.length co64 : Value).ownBlock ∧ some k_ ≠ (.slice Ao74 t234.length co74 : Value).ownBlock ∧ some k_ ≠ (.slice Ao89 t244.length co89 : Value).ownBlock ∧ some k_ ≠ (.slice Ao90 t247.length co90 : Value).ownBlock ∧ some k_ ≠ (.slice Ao94 t252.length co94 : Value).ownBlock) (Kd.R_keptB (HO241.out) hkp (fun k_ hk_ hs_ => (hk_.2.2.2.2.2.2.1) hs_)) (fun k_ hk_ => ⟨hk_.1.1, hk_.1.2.1, hk_.1.2.2.1, hk_.1.2.2.2.1, hk_.1.2.2.2.2.1, hk_.1.2.2.2.2.2.1, hk_.1.2.2.2.2.2.2.1, hk_.1.2.2.2.2.2.2.2.1, hk_.1.2.2.2.2.2.2.2.2.1, hk_.1.2.2.2.2.2.2.2.2.2⟩)); replace BK242 := zm (blk_kept (zb BK242.out) hkp (fun hs_ => (fun e_ => (Kd.R_ne HO236.out BK242.out (by decide)) e_) hs_)); replace HO236 := zm (Kd.R_reok rfl hy0 (fun k_ e_ => HO236.out.1 k_ e_)); replace HO246 := zm (Kd.R_mono (ok' := fun k_ => some k_ ≠ (v212 : Value).ownBlock ∧ some k_ ≠ (v215 : Value).ownBlock ∧ some k_ ≠ (v219 : Value).ownBlock ∧ some k_ ≠ (.slice Ao53 t222.length co53 : Value).ownBlock ∧ some k_ ≠ (.slice Ao59 t226.length co59 : Value).ownBlock ∧ some k_ ≠ (.slice Ao64 t229.length co64 : Value).ownBlock ∧ some k_ ≠ (.slice Ao74 t234.length co74 : Value).ownBlock ∧ some k_ ≠ (.slice Ao84 t239.length co84 : Value).ownBlock ∧ some k_ ≠ (.slice Ao90 t247.length co90 : Value).ownBlock ∧ some k_ ≠ (.slice Ao94 t252.length co94 : Value).ownBlock) (Kd.R_keptB (HO246.out) hkp (fun k_ hk_ hs_ => (hk_.2.2.2.2.2.2.1) hs_)) (fun k_ hk_ => ⟨hk_.1.1, hk_.1.2.1, hk_.1.2.2.1, hk_.1.2.2.2.1, hk_.1.2.2.2.2.1, hk_.1.2.2.2.2.2.1, hk_.1.2.2.2.2.2.2.1, hk_.1.2.2.2.2.2.2.2.1, hk_.1.2.2.2.2.2.2.2.2.1, hk_.1.2.2.2.2.2.2.2.2.2⟩)); replace HO249 := zm (Kd.R_mono (ok' := fun k_ => some k_ ≠ (v212 : Value).ownBlock ∧ some k_ ≠ (v215 : Value).ownBlock ∧ some k_ ≠ (v219 : Value).ownBlock ∧ some k_ ≠ (.slice Ao53 t222.length co53 : Value).ownBlock ∧ some k_ ≠ (.slice Ao59 t226.length co59 : Value).ownBlock ∧ some k_ ≠ (.slice Ao64 t229.length co64 : Value).ownBlock ∧ some k_ ≠ (.slice Ao74 t234.length co74 : Value).ownBlock ∧ some k_ ≠ (.slice Ao84 t239.length co84 : Value).ownBlock ∧ some k_ ≠ (.slice Ao89 t244.length co89 : Value).ownBlock ∧ some k_ ≠ (.slice Ao94 t252.length co94 : Value).ownBlock) (Kd.R_keptB (HO249.out) hkp (fun k_ hk_ hs_ => (hk_.2.2.2.2.2.2.1) hs_)) (fun k_ hk_ => ⟨hk_.1.1, hk_.1.2.1, hk_.1.2.2.1, hk_.1.2.2.2.1, hk_.1.2.2.2.2.1, hk_.1.2.2.2.2.2.1, hk_.1.2.2.2.2.2.2.1, hk_.1.2.2.2.2.2.2.2.1, hk_.1.2.2.2.2.2.2.2.2.1, hk_.1.2.2.2.2.2.2.2.2.2⟩)); replace HO254 := zm (Kd.R_mono (ok' := fun k_ => some k_ ≠ (v212 : Value).ownBlock ∧ some k_ ≠ (v215 : Value).ownBlock ∧ some k_ ≠ (v219 : Value).ownBlock ∧ some k_ ≠ (.slice Ao53 t222.length co53 : Value).ownBlock ∧ some k_ ≠ (.slice Ao59 t226.length co59 : Value).ownBlock ∧ some k_ ≠ (.slice Ao64 t229.length co64 : Value).ownBlock ∧ some k_ ≠ (.slice Ao74 t234.length co74 : Value).ownBlock ∧ some k_ ≠ (.slice Ao84 t239.length co84 : Value).ownBlock ∧ some k_ ≠ (.slice Ao89 t244.length co89 : Value).ownBlock ∧ some k_ ≠ (.slice Ao90 t247.length co90 : Value).ownBlock) (Kd.R_keptB (HO254.out) hkp (fun k_ hk_ hs_ => (hk_.2.2.2.2.2.2.1) hs_)) (fun k_ hk_ => ⟨hk_.1.1, hk_.1.2.1, hk_.1.2.2.1, hk_.1.2.2.2.1, hk_.1.2.2.2.2.1, hk_.1.2.2.2.2.2.1, hk_.1.2.2.2.2.2.2.1, hk_.1.2.2.2.2.2.2.2.1, hk_.1.2.2.2.2.2.2.2.2.1, hk_.1.2.2.2.2.2.2.2.2.2⟩)); replace HB := zm (hb); (try clear hb); (try clear hkp); (try clear hy0)))
            (try simp only [Act.put, List.setIfInBounds_toArray, List.set_cons_zero, List.set_cons_succ])
            go_cut [63] (fun v63 wc => ∃ (kq : Nat) (x63_34 : Bool), v63 = .bool x63_34 ∧ Aside0 (laws_FnExactApplyToFact.j0 kq x63_34 l0_0 l0_1 a1_0 l1_1 t221 t222 t238 t239 = some true) ∧ Aside0 (kq ≤ k) ∧ Aside0 (Kd.R (Kd.int .i64) 3 wc w.heap.size (fun k_ => some k_ ≠ ((.slice Ao59 t226.length co59) : Value).ownBlock ∧ some k_ ≠ ((.slice Ao64 t229.length co64) : Value).ownBlock ∧ some k_ ≠ ((.slice Ao74 t234.length co74) : Value).ownBlock ∧ some k_ ≠ ((.slice Ao84 t239.length co84) : Value).ownBlock) (.slice Ao53 t222.length co53) t222) ∧ Aside0 (Kd.R (Kd.int .i64) 3 wc w.heap.size (fun k_ => some k_ ≠ ((.slice Ao53 t222.length co53) : Value).ownBlock ∧ some k_ ≠ ((.slice Ao64 t229.length co64) : Value).ownBlock ∧ some k_ ≠ ((.slice Ao74 t234.length co74) : Value).ownBlock ∧ some k_ ≠ ((.slice Ao84 t239.length co84) : Value).ownBlock) (.slice Ao59 t226.length co59) t257) ∧ Aside0 (Kd.R (Kd.int .i64) 3 wc w.heap.size (fun k_ => some k_ ≠ ((.slice Ao53 t222.length co53) : Value).ownBlock ∧ some k_ ≠ ((.slice Ao59 t226.length co59) : Value).ownBlock ∧ some k_ ≠ ((.slice Ao74 t234.length co74) : Value).ownBlock ∧ some k_ ≠ ((.slice Ao84 t239.length co84) : Value).ownBlock) (.slice Ao64 t229.length co64) t258) ∧ Aside0 (Kd.R (Kd.int .i64) 3 wc w.heap.size (fun k_ => some k_ ≠ ((.slice Ao53 t222.length co53) : Value).ownBlock ∧ some k_ ≠ ((.slice Ao59 t226.length co59) : Value).ownBlock ∧ some k_ ≠ ((.slice Ao64 t229.length co64) : Value).ownBlock ∧ some k_ ≠ ((.slice Ao84 t239.length co84) : Value).ownBlock) (.slice Ao74 t234.length co74) t260) ∧ Aside0 (Kd.R (Kd.int .i64) 3 wc w.heap.size (fun k_ => some k_ ≠ ((.slice Ao53 t222.length co53) : Value).ownBlock ∧ some k_ ≠ ((.slice Ao59 t226.length co59) : Value).ownBlock ∧ some k_ ≠ ((.slice Ao64 t229.length co64) : Value).ownBlock ∧ some k_ ≠ ((.slice Ao74 t234.length co74) : Value).ownBlock) (.slice Ao84 t239.length co84) t239) ∧ Aside0 (wc.heap[gb207]? = some (.cells #[(.slice A0_0 l0_0.length c0_0), (.slice A0_1 l0_1.length c0_1)] 36 (0, 0))) ∧ Aside0 (wc.heap[gb208]? = some (.cells #[.int .i64 a1_0, (.slice A1_1 l1_1.length c1_1)] 47 (0, 0))) ∧ Aside0 (wc.heap[gb225]? = some (.cells #[.int .i64 t221, (.slice Ao53 t222.length co53)] 50 (0, 0))) ∧ Aside0 (wc.heap[gb232]? = some (.cells #[(.slice Ao59 t226.length co59), (.slice Ao64 t229.length co64)] 39 (0, 0))) ∧ Aside0 (wc.heap[gb237]? = some (.cells #[.int .i64 t233, (.slice Ao74 t234.length co74)] 50 (0, 0))) ∧ Aside0 (wc.heap[gb242]? = some (.cells #[.int .i64 t238, (.slice Ao84 t239.length co84)] 50 (0, 0))) ∧ Aside0 (Below w.heap.size w wc))
            case first =>
              have H := HC35.out
              clear HC35
              by_cases c100 : t259 < 0
              · rw [if_pos c100] at H
                have c100b0 : decide (t259 < 0) = true := decide_eq_true c100
                clear c100
                (first | rw [c100b0] | (simp only [i64_w, i32_w]; rw [c100b0]) | skip)
                have H' := Aside0.mk H
                clear H
                go_wp2
                go_meet
                case rel => exact ⟨_, (true), (by first | rfl | (simp; done) | (simp [*]; done)), H', ⟨by first | omega | exact Nat.le_refl _⟩, ⟨by (with_reducible repeat (first | apply Kd.R_alloc | apply Kd.R_drewN | apply Kd.R_drew)); exact Kd.R_mono HO224.out (fun _ hk => ⟨hk.2.2.2.1, ⟨hk.2.2.2.2.1, ⟨hk.2.2.2.2.2.1, hk.2.2.2.2.2.2.1⟩⟩⟩)⟩, ⟨by (with_reducible repeat (first | apply Kd.R_alloc | apply Kd.R_drewN | apply Kd.R_drew)); exact Kd.R_mono HO228.out (fun _ hk => ⟨hk.2.2.2.1, ⟨hk.2.2.2.2.1, ⟨hk.2.2.2.2.2.1, hk.2.2.2.2.2.2.1⟩⟩⟩)⟩, ⟨by (with_reducible repeat (first | apply Kd.R_alloc | apply Kd.R_drewN | apply Kd.R_drew)); exact Kd.R_mono HO231.out (fun _ hk => ⟨hk.2.2.2.1, ⟨hk.2.2.2.2.1, ⟨hk.2.2.2.2.2.1, hk.2.2.2.2.2.2.1⟩⟩⟩)⟩, ⟨by (with_reducible repeat (first | apply Kd.R_alloc | apply Kd.R_drewN | apply Kd.R_drew)); exact Kd.R_mono HO236.out (fun _ hk => ⟨hk.2.2.2.1, ⟨hk.2.2.2.2.1, ⟨hk.2.2.2.2.2.1, hk.2.2.2.2.2.2.1⟩⟩⟩)⟩, ⟨by (with_reducible repeat (first | apply Kd.R_alloc | apply Kd.R_drewN | apply Kd.R_drew)); exact Kd.R_mono HO241.out (fun _ hk => ⟨hk.2.2.2.1, ⟨hk.2.2.2.2.1, ⟨hk.2.2.2.2.2.1, hk.2.2.2.2.2.2.1⟩⟩⟩)⟩, ⟨by (with_reducible repeat (first | refine blk_drewN ?_ _ | refine blk_drew ?_ | refine blk_alloc ?_ _)); exact BK207.out⟩, ⟨by (with_reducible repeat (first | refine blk_drewN ?_ _ | refine blk_drew ?_ | refine blk_alloc ?_ _)); exact BK208.out⟩, ⟨by (with_reducible repeat (first | refine blk_drewN ?_ _ | refine blk_drew ?_ | refine blk_alloc ?_ _)); exact BK225.out⟩, ⟨by (with_reducible repeat (first | refine blk_drewN ?_ _ | refine blk_drew ?_ | refine blk_alloc ?_ _)); exact BK232.out⟩, ⟨by (with_reducible repeat (first | refine blk_drewN ?_ _ | refine blk_drew ?_ | refine blk_alloc ?_ _)); exact BK237.out⟩, ⟨by (with_reducible repeat (first | refine blk_drewN ?_ _ | refine blk_drew ?_ | refine blk_alloc ?_ _)); exact BK242.out⟩, ⟨by repeat (first | (with_reducible first | exact HB.out | apply below_alloc | apply pw_below_drewN | apply below_drew1 | refine below_set ?_ GE207.out | refine below_set ?_ GE208.out | refine below_set ?_ GE225.out | refine below_set ?_ GE232.out | refine below_set ?_ GE237.out | refine below_set ?_ GE242.out) | exact HB.out)⟩⟩
              · rw [if_neg c100] at H
                have c100b0 : decide (t259 < 0) = false := decide_eq_false c100
                clear c100
                (first | rw [c100b0] | (simp only [i64_w, i32_w]; rw [c100b0]) | skip)
                replace H := Option.bind_eq_some_iff.mp H
                obtain ⟨t261, A1010, H⟩ := H
                replace H : (laws_FnExactApplyToFact.j0 k (!t261) l0_0 l0_1 a1_0 l1_1 t221 t222 t238 t239) = some true := H
                have A101 := Aside0.mk A1010
                clear A1010
                have H' := Aside0.mk H
                clear H
                have hnb102 := NB242_207.out
                have hnc102 := NB207_242.out
                have hnb103 := NB242_208.out
                have hnc103 := NB208_242.out
                have hnb104 := NB242_225.out
                have hnc104 := NB225_242.out
                have hnb105 := NB242_232.out
                have hnc105 := NB232_242.out
                have hnb106 := NB242_237.out
                have hnc106 := NB237_242.out
                have hcz107_0 : w99.cell? ⟨gb242, 0, none⟩ = some (.int .i64 t238) := (blk_cell BK242.out 0).trans rfl
                have hcz107_1 : w99.cell? ⟨gb242, 1, none⟩ = some (.slice Ao84 t239.length co84) := (blk_cell BK242.out 1).trans rfl
                have hfz107_0 := blk_frozen BK242.out 0
                have hfz107_1 := blk_frozen BK242.out 1
                have hnb108 := NB225_207.out
                have hnc108 := NB207_225.out
                have hnb109 := NB225_208.out
                have hnc109 := NB208_225.out
                have hnb110 := NB225_232.out
                have hnc110 := NB232_225.out
                have hnb111 := NB225_237.out
                have hnc111 := NB237_225.out
                have hcz112_0 : w99.cell? ⟨gb225, 0, none⟩ = some (.int .i64 t221) := (blk_cell BK225.out 0).trans rfl
                have hcz112_1 : w99.cell? ⟨gb225, 1, none⟩ = some (.slice Ao53 t222.length co53) := (blk_cell BK225.out 1).trans rfl
                have hfz112_0 := blk_frozen BK225.out 0
                have hfz112_1 := blk_frozen BK225.out 1
                go_wp2_with (first | (go_at_call 34; (with_reducible refine (laws_eqFact.calls k t238 _ _ t239 t221 _ _ t222 t261 _ ?side1 ?side2 ?side3 ?side4 A101.out).mono ?_); (case side1 => repeat (first | exact (Kd.R_reads' HO241.out).2.2 | (with_reducible refine Kd.C_alloc ?_ _) | (with_reducible refine Kd.C_drewN ?_ _) | (with_reducible refine Kd.C_drew ?_))); (case side2 => exact (Kd.R_reads' HO241.out).2.1); (case side3 => repeat (first | exact (Kd.R_reads' HO224.out).2.2 | (with_reducible refine Kd.C_alloc ?_ _) | (with_reducible refine Kd.C_drewN ?_ _) | (with_reducible refine Kd.C_drew ?_))); (case side4 => exact (Kd.R_reads' HO224.out).2.1); rintro e w113 ⟨rfl, hb⟩; have n0_ := Aside0.mk (Kd.R_below (zr HO213.out) hb); have n1_ := Aside0.mk (Kd.R_below (zr HO216.out) hb); have n2_ := Aside0.mk (Kd.R_below (zr HO220.out) hb); have n3_ := Aside0.mk (Kd.R_below (zr HO224.out) hb); have n4_ := Aside0.mk (Kd.R_below (zr HO228.out) hb); have n5_ := Aside0.mk (Kd.R_below (zr HO231.out) hb); have n6_ := Aside0.mk (Kd.R_below (zr HO236.out) hb); have n7_ := Aside0.mk (Kd.R_below (zr HO241.out) hb); have n8_ := Aside0.mk (Kd.R_below (zr HO246.out) hb); have n9_ := Aside0.mk (Kd.R_below (zr HO249.out) hb); have n10_ := Aside0.mk (Kd.R_below (zr HO254.out) hb); have n11_ := Aside0.mk (blk_below (zb BK207.out) hb); have n12_ := Aside0.mk (blk_below (zb BK208.out) hb); have n13_ := Aside0.mk (blk_below (zb BK225.out) hb); have n14_ := Aside0.mk (blk_below (zb BK232.out) hb); have n15_ := Aside0.mk (blk_below (zb BK237.out) hb); have n16_ := Aside0.mk (blk_below (zb BK242.out) hb); have n17_ := Aside0.mk (below_step zl hb); clear HO213; clear HO216; clear HO220; clear HO224; clear HO228; clear HO231; clear HO236; clear HO241; clear HO246; clear HO249; clear HO254; clear BK207; clear BK208; clear BK225; clear BK232; clear BK237; clear BK242; clear HB; have HO213 := n0_; have HO216 := n1_; have HO220 := n2_; have HO224 := n3_; have HO228 := n4_; have HO231 := n5_; have HO236 := n6_; have HO241 := n7_; have HO246 := n8_; have HO249 := n9_; have HO254 := n10_; have BK207 := n11_; have BK208 := n12_; have BK225 := n13_; have BK232 := n14_; have BK237 := n15_; have BK242 := n16_; have HB := n17_; clear n0_ n1_ n2_ n3_ n4_ n5_ n6_ n7_ n8_ n9_ n10_ n11_ n12_ n13_ n14_ n15_ n16_ n17_; (try clear hb); (try clear hb2); (try clear hk); (try clear hi)))
                go_meet
                case rel => exact ⟨_, (!t261), (by first | rfl | (simp; done) | (simp [*]; done)), H', ⟨by first | omega | exact Nat.le_refl _⟩, ⟨by (with_reducible repeat (first | apply Kd.R_alloc | apply Kd.R_drewN | apply Kd.R_drew)); exact Kd.R_mono HO224.out (fun _ hk => ⟨hk.2.2.2.1, ⟨hk.2.2.2.2.1, ⟨hk.2.2.2.2.2.1, hk.2.2.2.2.2.2.1⟩⟩⟩)⟩, ⟨by (with_reducible repeat (first | apply Kd.R_alloc | apply Kd.R_drewN | apply Kd.R_drew)); exact Kd.R_mono HO228.out (fun _ hk => ⟨hk.2.2.2.1, ⟨hk.2.2.2.2.1, ⟨hk.2.2.2.2.2.1, hk.2.2.2.2.2.2.1⟩⟩⟩)⟩, ⟨by (with_reducible repeat (first | apply Kd.R_alloc | apply Kd.R_drewN | apply Kd.R_drew)); exact Kd.R_mono HO231.out (fun _ hk => ⟨hk.2.2.2.1, ⟨hk.2.2.2.2.1, ⟨hk.2.2.2.2.2.1, hk.2.2.2.2.2.2.1⟩⟩⟩)⟩, ⟨by (with_reducible repeat (first | apply Kd.R_alloc | apply Kd.R_drewN | apply Kd.R_drew)); exact Kd.R_mono HO236.out (fun _ hk => ⟨hk.2.2.2.1, ⟨hk.2.2.2.2.1, ⟨hk.2.2.2.2.2.1, hk.2.2.2.2.2.2.1⟩⟩⟩)⟩, ⟨by (with_reducible repeat (first | apply Kd.R_alloc | apply Kd.R_drewN | apply Kd.R_drew)); exact Kd.R_mono HO241.out (fun _ hk => ⟨hk.2.2.2.1, ⟨hk.2.2.2.2.1, ⟨hk.2.2.2.2.2.1, hk.2.2.2.2.2.2.1⟩⟩⟩)⟩, ⟨by (with_reducible repeat (first | refine blk_drewN ?_ _ | refine blk_drew ?_ | refine blk_alloc ?_ _)); exact BK207.out⟩, ⟨by (with_reducible repeat (first | refine blk_drewN ?_ _ | refine blk_drew ?_ | refine blk_alloc ?_ _)); exact BK208.out⟩, ⟨by (with_reducible repeat (first | refine blk_drewN ?_ _ | refine blk_drew ?_ | refine blk_alloc ?_ _)); exact BK225.out⟩, ⟨by (with_reducible repeat (first | refine blk_drewN ?_ _ | refine blk_drew ?_ | refine blk_alloc ?_ _)); exact BK232.out⟩, ⟨by (with_reducible repeat (first | refine blk_drewN ?_ _ | refine blk_drew ?_ | refine blk_alloc ?_ _)); exact BK237.out⟩, ⟨by (with_reducible repeat (first | refine blk_drewN ?_ _ | refine blk_drew ?_ | refine blk_alloc ?_ _)); exact BK242.out⟩, ⟨by repeat (first | (with_reducible first | exact HB.out | apply below_alloc | apply pw_below_drewN | apply below_drew1 | refine below_set ?_ GE207.out | refine below_set ?_ GE208.out | refine below_set ?_ GE225.out | refine below_set ?_ GE232.out | refine below_set ?_ GE237.out | refine below_set ?_ GE242.out) | exact HB.out)⟩⟩
            case rest =>
              clear HC35
              try clear c1
              try clear c2
              try clear p2
              try clear c3
              try clear c4
              try clear c5
              try clear c6
              try clear c7
              try clear c8
              try clear c10
              try clear c11
              try clear c23
              try clear c25
              try clear c32
              try clear c34
              try clear c38
              try clear c39
              try clear c40
              try clear c55
              try clear c60
              try clear c61
              try clear c62
              try clear c65
              try clear c69
              try clear c70
              try clear c71
              try clear c72
              try clear c78
              try clear c79
              try clear c80
              try clear c81
              try clear c82
              try clear c100
              try clear c100b0
              try clear c102
              try clear c103
              try clear c104
              try clear c105
              try clear c106
              try clear c108
              try clear c109
              try clear c110
              try clear c111
              try clear hcz107_0
              try clear hcz107_1
              try clear hcz112_0
              try clear hcz112_1
              try clear hcz56_0
              try clear hcz56_1
              try clear hcz63_0
              try clear hcz63_1
              try clear hcz66_0
              try clear hcz66_1
              try clear hcz73_0
              try clear hcz73_1
              try clear hcz75_0
              try clear hcz75_1
              try clear hcz83_0
              try clear hcz83_1
              try clear hcz85_0
              try clear hcz85_1
              try clear hcz96_0
              try clear hcz96_1
              try clear hcz98_0
              try clear hcz98_1
              try clear hfz107_0
              try clear hfz107_1
              try clear hfz112_0
              try clear hfz112_1
              try clear hfz56_0
              try clear hfz56_1
              try clear hfz63_0
              try clear hfz63_1
              try clear hfz66_0
              try clear hfz66_1
              try clear hfz73_0
              try clear hfz73_1
              try clear hfz75_0
              try clear hfz75_1
              try clear hfz83_0
              try clear hfz83_1
              try clear hfz85_0
              try clear hfz85_1
              try clear hfz96_0
              try clear hfz96_1
              try clear hfz98_0
              try clear hfz98_1
              obtain ⟨kq, x63_34, rfl, HA, HJ34, HO_226001, HO_233000, HO_233001, HO_238001, HO_243001, BK207, BK208, BK225, BK232, BK237, BK242, HB⟩ := hcut
              have hl233000_34 := (Kd.R_reads' HO_233000.out).1
              rw [hl233000_34] at HO_233000
              (try simp only [hl233000_34])
              (try simp only [hl233000_34] at BK207)
              (try simp only [hl233000_34] at BK208)
              (try simp only [hl233000_34] at BK225)
              (try simp only [hl233000_34] at BK232)
              (try simp only [hl233000_34] at BK237)
              (try simp only [hl233000_34] at BK242)
              (try simp only [hl233000_34] at HO_226001)
              (try simp only [hl233000_34] at HO_233001)
              (try simp only [hl233000_34] at HO_238001)
              (try simp only [hl233000_34] at HO_243001)
              have hl233001_34 := (Kd.R_reads' HO_233001.out).1
              rw [hl233001_34] at HO_233001
              (try simp only [hl233001_34])
              (try simp only [hl233001_34] at BK207)
              (try simp only [hl233001_34] at BK208)
              (try simp only [hl233001_34] at BK225)
              (try simp only [hl233001_34] at BK232)
              (try simp only [hl233001_34] at BK237)
              (try simp only [hl233001_34] at BK242)
              (try simp only [hl233001_34] at HO_226001)
              (try simp only [hl233001_34] at HO_233000)
              (try simp only [hl233001_34] at HO_238001)
              (try simp only [hl233001_34] at HO_243001)
              have hl238001_34 := (Kd.R_reads' HO_238001.out).1
              rw [hl238001_34] at HO_238001
              (try simp only [hl238001_34])
              (try simp only [hl238001_34] at BK207)
              (try simp only [hl238001_34] at BK208)
              (try simp only [hl238001_34] at BK225)
              (try simp only [hl238001_34] at BK232)
              (try simp only [hl238001_34] at BK237)
              (try simp only [hl238001_34] at BK242)
              (try simp only [hl238001_34] at HO_226001)
              (try simp only [hl238001_34] at HO_233000)
              (try simp only [hl238001_34] at HO_233001)
              (try simp only [hl238001_34] at HO_243001)
              cases kq with
              | zero => exact absurd HA.out (by simp [laws_FnExactApplyToFact.j0])
              | succ kj34 =>
                have H := HA.out
                clear HA
                simp only [laws_FnExactApplyToFact.j0] at H
                by_cases c114 : x63_34 = true
                · subst c114
                  have H1 : (some false) = some true := by first | with_reducible rfl | (rw [if_pos rfl] at H; exact H)
                  clear H
                  have H := H1
                  clear H1
                  exact absurd H (by simp)
                · replace c114 := Bool.eq_false_iff.mpr c114
                  subst c114
                  have H1 : ((laws_markFact.f kj34 t238 t239 1).bind fun bt262 => ((laws_heldFact.f kj34 t238 bt262.2 1).bind fun t264 => (if t264 < 0 then (some false) else (if t264 = bt262.1 then ((laws_toSubstitution.f kj34 l0_0 l0_1).bind fun bt265 => ((laws_toFact.f kj34 a1_0 l1_1).bind fun bt271 => ((impl_ApplyToFact.f kj34 bt265.1 bt265.2 bt271.1 bt271.2).bind fun bt275 => ((laws_eqFact.f kj34 bt275.1 bt275.2 t221 t222).bind fun t280 => (if t280 = true then ((laws_heldFact.f kj34 t238 bt262.2 1).bind fun t281 => (if t281 < 0 then (some false) else (if t281 = bt262.1 then (some true) else (some false)))) else (some false)))))) else (some false))))) = some true := by first | with_reducible rfl | (rw [if_neg (show ¬ (false = true) by decide)] at H; exact H)
                  clear H
                  have H := H1
                  clear H1
                  replace H := Option.bind_eq_some_iff.mp H
                  obtain ⟨⟨t262, t263⟩, A1150, H⟩ := H
                  replace H : ((laws_heldFact.f kj34 t238 t263 1).bind fun t264 => (if t264 < 0 then (some false) else (if t264 = t262 then ((laws_toSubstitution.f kj34 l0_0 l0_1).bind fun bt265 => ((laws_toFact.f kj34 a1_0 l1_1).bind fun bt271 => ((impl_ApplyToFact.f kj34 bt265.1 bt265.2 bt271.1 bt271.2).bind fun bt275 => ((laws_eqFact.f kj34 bt275.1 bt275.2 t221 t222).bind fun t280 => (if t280 = true then ((laws_heldFact.f kj34 t238 t263 1).bind fun t281 => (if t281 < 0 then (some false) else (if t281 = t262 then (some true) else (some false)))) else (some false)))))) else (some false)))) = some true := H
                  have A115 := Aside0.mk A1150
                  clear A1150
                  replace H := Option.bind_eq_some_iff.mp H
                  obtain ⟨t264, A1160, H⟩ := H
                  replace H : (if t264 < 0 then (some false) else (if t264 = t262 then ((laws_toSubstitution.f kj34 l0_0 l0_1).bind fun bt265 => ((laws_toFact.f kj34 a1_0 l1_1).bind fun bt271 => ((impl_ApplyToFact.f kj34 bt265.1 bt265.2 bt271.1 bt271.2).bind fun bt275 => ((laws_eqFact.f kj34 bt275.1 bt275.2 t221 t222).bind fun t280 => (if t280 = true then ((laws_heldFact.f kj34 t238 t263 1).bind fun t281 => (if t281 < 0 then (some false) else (if t281 = t262 then (some true) else (some false)))) else (some false)))))) else (some false))) = some true := H
                  have A116 := Aside0.mk A1160
                  clear A1160
                  by_cases c117 : t264 < 0
                  · rw [if_pos c117] at H
                    have c117b0 : decide (t264 < 0) = true := decide_eq_true c117
                    clear c117
                    exact absurd H (by simp)
                  · rw [if_neg c117] at H
                    have c117b0 : decide (t264 < 0) = false := decide_eq_false c117
                    clear c117
                    by_cases c118 : t264 = t262
                    · rw [if_pos c118] at H
                      have c118b0 : (t264 == t262) = true := beq_iff_eq.mpr c118
                      have c118b1 : (t264 != t262) = false := bne_eq_false_iff_eq.mpr c118
                      clear c118
                      replace H := Option.bind_eq_some_iff.mp H
                      obtain ⟨⟨t265, t268⟩, A1190, H⟩ := H
                      replace H : ((laws_toFact.f kj34 a1_0 l1_1).bind fun bt271 => ((impl_ApplyToFact.f kj34 t265 t268 bt271.1 bt271.2).bind fun bt275 => ((laws_eqFact.f kj34 bt275.1 bt275.2 t221 t222).bind fun t280 => (if t280 = true then ((laws_heldFact.f kj34 t238 t263 1).bind fun t281 => (if t281 < 0 then (some false) else (if t281 = t262 then (some true) else (some false)))) else (some false))))) = some true := H
                      have A119 := Aside0.mk A1190
                      clear A1190
                      replace H := Option.bind_eq_some_iff.mp H
                      obtain ⟨⟨t271, t272⟩, A1200, H⟩ := H
                      replace H : ((impl_ApplyToFact.f kj34 t265 t268 t271 t272).bind fun bt275 => ((laws_eqFact.f kj34 bt275.1 bt275.2 t221 t222).bind fun t280 => (if t280 = true then ((laws_heldFact.f kj34 t238 t263 1).bind fun t281 => (if t281 < 0 then (some false) else (if t281 = t262 then (some true) else (some false)))) else (some false)))) = some true := H
                      have A120 := Aside0.mk A1200
                      clear A1200
                      replace H := Option.bind_eq_some_iff.mp H
                      obtain ⟨⟨t275, t276⟩, A1210, H⟩ := H
                      replace H : ((laws_eqFact.f kj34 t275 t276 t221 t222).bind fun t280 => (if t280 = true then ((laws_heldFact.f kj34 t238 t263 1).bind fun t281 => (if t281 < 0 then (some false) else (if t281 = t262 then (some true) else (some false)))) else (some false))) = some true := H
                      have A121 := Aside0.mk A1210
                      clear A1210
                      replace H := Option.bind_eq_some_iff.mp H
                      obtain ⟨t280, A1220, H⟩ := H
                      replace H : (if t280 = true then ((laws_heldFact.f kj34 t238 t263 1).bind fun t281 => (if t281 < 0 then (some false) else (if t281 = t262 then (some true) else (some false)))) else (some false)) = some true := H
                      have A122 := Aside0.mk A1220
                      clear A1220
                      by_cases c123 : t280 = true
                      · subst c123
                        have H1 : ((laws_heldFact.f kj34 t238 t263 1).bind fun t281 => (if t281 < 0 then (some false) else (if t281 = t262 then (some true) else (some false)))) = some true := by first | with_reducible rfl | (rw [if_pos rfl] at H; exact H)
                        clear H
                        have H := H1
                        clear H1
                        replace H := Option.bind_eq_some_iff.mp H
                        obtain ⟨t281, A1240, H⟩ := H
                        replace H : (if t281 < 0 then (some false) else (if t281 = t262 then (some true) else (some false))) = some true := H
                        have A124 := Aside0.mk A1240
                        clear A1240
                        by_cases c125 : t281 < 0
                        · rw [if_pos c125] at H
                          have c125b0 : decide (t281 < 0) = true := decide_eq_true c125
                          clear c125
                          exact absurd H (by simp)
                        · rw [if_neg c125] at H
                          have c125b0 : decide (t281 < 0) = false := decide_eq_false c125
                          clear c125
                          by_cases c126 : t281 = t262
                          · rw [if_pos c126] at H
                            have c126b0 : (t281 == t262) = true := beq_iff_eq.mpr c126
                            have c126b1 : (t281 != t262) = false := bne_eq_false_iff_eq.mpr c126
                            clear c126
                            clear H
                            have hnb127 := NB242_207.out
                            have hnc127 := NB207_242.out
                            have hnb128 := NB242_208.out
                            have hnc128 := NB208_242.out
                            have hnb129 := NB242_225.out
                            have hnc129 := NB225_242.out
                            have hnb130 := NB242_232.out
                            have hnc130 := NB232_242.out
                            have hnb131 := NB242_237.out
                            have hnc131 := NB237_242.out
                            have hcz132_0 : wc.cell? ⟨gb242, 0, none⟩ = some (.int .i64 t238) := (blk_cell BK242.out 0).trans rfl
                            have hcz132_1 : wc.cell? ⟨gb242, 1, none⟩ = some (.slice Ao84 t239.length co84) := (blk_cell BK242.out 1).trans rfl
                            have hfz132_0 := blk_frozen BK242.out 0
                            have hfz132_1 := blk_frozen BK242.out 1
                            try go_wp2_with (first | ((with_reducible refine gate_callee (f := 40) rfl ?_); refine zg (some 66) Try.func40 #[.agg #[.int .i64 t238, .slice Ao84 t239.length co84], .int .i64 1] ?_; (with_reducible refine (laws_markFact.calls kj34 t238 (fun k_ => some k_ = (.slice Ao84 t239.length co84 : Value).ownBlock) (.slice Ao84 t239.length co84) t239 1 t262 t263 w _ ?side1 ?side2 A115.out).mono ?_); (case side1 => exact zl); (case side2 => exact Kd.R_tight rfl HO_243001.out); rintro e w133 ⟨rfl, hy0, hb, hkp⟩; refine ⟨_, rfl, ?_⟩; replace HO_226001 := zm (Kd.R_mono (ok' := fun k_ => some k_ ≠ (.slice Ao59 t257.length co59 : Value).ownBlock ∧ some k_ ≠ (.slice Ao64 t258.length co64 : Value).ownBlock ∧ some k_ ≠ (.slice Ao74 t260.length co74 : Value).ownBlock ∧ some k_ ≠ (.slice Ao84 t239.length co84 : Value).ownBlock) (Kd.R_keptB (HO_226001.out) hkp (fun k_ hk_ hs_ => (hk_.2.2.2) hs_)) (fun k_ hk_ => ⟨hk_.1.1, hk_.1.2.1, hk_.1.2.2.1, hk_.1.2.2.2⟩)); replace HO_233000 := zm (Kd.R_mono (ok' := fun k_ => some k_ ≠ (.slice Ao53 t222.length co53 : Value).ownBlock ∧ some k_ ≠ (.slice Ao64 t258.length co64 : Value).ownBlock ∧ some k_ ≠ (.slice Ao74 t260.length co74 : Value).ownBlock ∧ some k_ ≠ (.slice Ao84 t239.length co84 : Value).ownBlock) (Kd.R_keptB (HO_233000.out) hkp (fun k_ hk_ hs_ => (hk_.2.2.2) hs_)) (fun k_ hk_ => ⟨hk_.1.1, hk_.1.2.1, hk_.1.2.2.1, hk_.1.2.2.2⟩)); replace HO_233001 := zm (Kd.R_mono (ok' := fun k_ => some k_ ≠ (.slice Ao53 t222.length co53 : Value).ownBlock ∧ some k_ ≠ (.slice Ao59 t257.length co59 : Value).ownBlock ∧ some k_ ≠ (.slice Ao74 t260.length co74 : Value).ownBlock ∧ some k_ ≠ (.slice Ao84 t239.length co84 : Value).ownBlock) (Kd.R_keptB (HO_233001.out) hkp (fun k_ hk_ hs_ => (hk_.2.2.2) hs_)) (fun k_ hk_ => ⟨hk_.1.1, hk_.1.2.1, hk_.1.2.2.1, hk_.1.2.2.2⟩)); replace HO_238001 := zm (Kd.R_mono (ok' := fun k_ => some k_ ≠ (.slice Ao53 t222.length co53 : Value).ownBlock ∧ some k_ ≠ (.slice Ao59 t257.length co59 : Value).ownBlock ∧ some k_ ≠ (.slice Ao64 t258.length co64 : Value).ownBlock ∧ some k_ ≠ (.slice Ao84 t239.length co84 : Value).ownBlock) (Kd.R_keptB (HO_238001.out) hkp (fun k_ hk_ hs_ => (hk_.2.2.2) hs_)) (fun k_ hk_ => ⟨hk_.1.1, hk_.1.2.1, hk_.1.2.2.1, hk_.1.2.2.2⟩)); replace BK207 := zm (blk_kept (zb BK207.out) hkp (fun hs_ => (fun e_ => (Kd.R_ne HO_243001.out BK207.out (by decide)) e_) hs_)); replace BK208 := zm (blk_kept (zb BK208.out) hkp (fun hs_ => (fun e_ => (Kd.R_ne HO_243001.out BK208.out (by decide)) e_) hs_)); replace BK225 := zm (blk_kept (zb BK225.out) hkp (fun hs_ => (fun e_ => (Kd.R_ne HO_243001.out BK225.out (by decide)) e_) hs_)); replace BK232 := zm (blk_kept (zb BK232.out) hkp (fun hs_ => (fun e_ => (Kd.R_ne HO_243001.out BK232.out (by decide)) e_) hs_)); replace BK237 := zm (blk_kept (zb BK237.out) hkp (fun hs_ => (fun e_ => (Kd.R_ne HO_243001.out BK237.out (by decide)) e_) hs_)); replace BK242 := zm (blk_kept (zb BK242.out) hkp (fun hs_ => (fun e_ => (Kd.R_ne HO_243001.out BK242.out (by decide)) e_) hs_)); replace HO_243001 := zm (Kd.R_reok rfl hy0 (fun k_ e_ => HO_243001.out.1 k_ e_)); replace HB := zm (hb); (try clear hb); (try clear hkp); (try clear hy0); have hcz134_0 : w133.cell? ⟨gb242, 0, none⟩ = some (.int .i64 t238) := (blk_cell BK242.out 0).trans rfl; have hcz134_1 : w133.cell? ⟨gb242, 1, none⟩ = some (.slice Ao84 t239.length co84) := (blk_cell BK242.out 1).trans rfl; have hfz134_0 := blk_frozen BK242.out 0; have hfz134_1 := blk_frozen BK242.out 1) | ((with_reducible refine gate_callee (f := 41) rfl ?_); refine goesL_ (some 69) rfl rfl Try.func41 (by kernel_rfl) rfl #[.agg #[.int .i64 t238, .slice Ao84 t263.length co84], .int .i64 1] rfl (by (try simp only [List.map_toArray, List.map_cons, List.map_nil]); first | done | (rw [show t263.length = t239.length from (Kd.R_reads' HO_243001.out).1.symm] <;> rfl) | rfl | (simp only [List.length_drop, List.length_take]; rfl)) ?_; (with_reducible refine (laws_heldFact.calls kj34 t238 _ _ t263 1 t264 _ ?side1 ?side2 A116.out).mono ?_); (case side1 => repeat (first | exact (Kd.R_reads' HO_243001.out).2.2 | (with_reducible refine Kd.C_alloc ?_ _) | (with_reducible refine Kd.C_drewN ?_ _) | (with_reducible refine Kd.C_drew ?_))); (case side2 => rw [show t263.length = t239.length from (Kd.R_reads' HO_243001.out).1.symm]; exact (Kd.R_reads' HO_243001.out).2.1); rintro e w135 ⟨rfl, hb⟩; refine ⟨_, rfl, ?_⟩; replace HO_226001 := zm (Kd.R_below (zr HO_226001.out) hb); replace HO_233000 := zm (Kd.R_below (zr HO_233000.out) hb); replace HO_233001 := zm (Kd.R_below (zr HO_233001.out) hb); replace HO_238001 := zm (Kd.R_below (zr HO_238001.out) hb); replace HO_243001 := zm (Kd.R_below (zr HO_243001.out) hb); replace BK207 := zm (blk_below (zb BK207.out) hb); replace BK208 := zm (blk_below (zb BK208.out) hb); replace BK225 := zm (blk_below (zb BK225.out) hb); replace BK232 := zm (blk_below (zb BK232.out) hb); replace BK237 := zm (blk_below (zb BK237.out) hb); replace BK242 := zm (blk_below (zb BK242.out) hb); replace HB := zm (below_step zl hb); (try clear hb); (try clear hb2); (try clear hk); (try clear hi)))
                            replace HO_226001 := zm (Kd.R_drew HO_226001.out)
                            replace HO_233000 := zm (Kd.R_drew HO_233000.out)
                            replace HO_233001 := zm (Kd.R_drew HO_233001.out)
                            replace HO_238001 := zm (Kd.R_drew HO_238001.out)
                            replace HO_243001 := zm (Kd.R_drew HO_243001.out)
                            replace BK207 := zm (blk_drew BK207.out)
                            replace BK208 := zm (blk_drew BK208.out)
                            replace BK225 := zm (blk_drew BK225.out)
                            replace BK232 := zm (blk_drew BK232.out)
                            replace BK237 := zm (blk_drew BK237.out)
                            replace BK242 := zm (blk_drew BK242.out)
                            replace HB := zm (below_drew1 HB.out)
                            refine start_ (n := 7) (S := fun w' => w'.cell? ⟨gb207, 0, none⟩ = some (.slice A0_0 l0_0.length c0_0) ∧ w'.cell? ⟨gb207, 1, none⟩ = some (.slice A0_1 l0_1.length c0_1) ∧ w'.cell? ⟨gb208, 0, none⟩ = some (.int .i64 a1_0) ∧ w'.cell? ⟨gb208, 1, none⟩ = some (.slice A1_1 l1_1.length c1_1)) (ds := []) #[false, false, false, false, false, false, false] (by kernel_rfl) rfl rfl ⟨(blk_cell BK207.out 0).trans rfl, (blk_cell BK207.out 1).trans rfl, (blk_cell BK208.out 0).trans rfl, (blk_cell BK208.out 1).trans rfl⟩ (fun hHeld => ?_)
                            generalize w135.drew = w136 at HO_226001 HO_233000 HO_233001 HO_238001 HO_243001 BK207 BK208 BK225 BK232 BK237 BK242 HB hHeld ⊢
                            refine take_ (i := 0) (N := some 75) (v := ?_) (a' := ?_) #[true, false, false, false, false, false, false] rfl rfl (by kernel_rfl) (fun _ _ _ h => h) (Or.inl ⟨by rfl, ?_⟩) hHeld ?_ ?_
                            rotate_left
                            · rintro w' ⟨s0, s1, s2, s3⟩
                              go_simp
                              with_reducible rfl
                            rotate_left
                            · simp only [Act.put, List.setIfInBounds_toArray, List.set_cons_zero, List.set_cons_succ, i64_w, i32_w]
                              rfl
                            refine take_ (i := 2) (N := some 77) (v := ?_) (a' := ?_) #[true, false, true, false, false, false, false] rfl rfl (by kernel_rfl) (fun _ _ _ h => h) (Or.inl ⟨by rfl, ?_⟩) hHeld ?_ ?_
                            rotate_left
                            · rintro w' ⟨s0, s1, s2, s3⟩
                              go_simp
                              with_reducible rfl
                            rotate_left
                            · simp only [Act.put, List.setIfInBounds_toArray, List.set_cons_zero, List.set_cons_succ, i64_w, i32_w]
                              rfl
                            refine join_ (σ := Value × Value × Value × Value × Nat) 1 #[true, true, true, true, true, true, false] (fun s_ => [(76, .agg #[s_.1, s_.2.1]), (78, .agg #[.int .i64 t271, s_.2.2.1]), (79, .agg #[.int .i64 t275, s_.2.2.2.1]), (13, .pointer (some ⟨s_.2.2.2.2, 0, none⟩))]) (fun s_ w' => (w'.cell? ⟨gb207, 0, none⟩ = some (.slice A0_0 l0_0.length c0_0) ∧ w'.cell? ⟨gb207, 1, none⟩ = some (.slice A0_1 l0_1.length c0_1) ∧ w'.cell? ⟨gb208, 0, none⟩ = some (.int .i64 a1_0) ∧ w'.cell? ⟨gb208, 1, none⟩ = some (.slice A1_1 l1_1.length c1_1)) ∧ (Kd.R (Kd.int .i64) 3 w' w.heap.size (fun k_ => some k_ ≠ (s_.2.1 : Value).ownBlock ∧ some k_ ≠ (s_.2.2.1 : Value).ownBlock ∧ some k_ ≠ (s_.2.2.2.1 : Value).ownBlock ∧ some k_ ≠ (.slice Ao53 t222.length co53 : Value).ownBlock ∧ some k_ ≠ (.slice Ao59 t257.length co59 : Value).ownBlock ∧ some k_ ≠ (.slice Ao64 t258.length co64 : Value).ownBlock ∧ some k_ ≠ (.slice Ao74 t260.length co74 : Value).ownBlock ∧ some k_ ≠ (.slice Ao84 t239.length co84 : Value).ownBlock) s_.1 t265) ∧ (Kd.R (Kd.int .i64) 3 w' w.heap.size (fun k_ => some k_ ≠ (s_.1 : Value).ownBlock ∧ some k_ ≠ (s_.2.2.1 : Value).ownBlock ∧ some k_ ≠ (s_.2.2.2.1 : Value).ownBlock ∧ some k_ ≠ (.slice Ao53 t222.length co53 : Value).ownBlock ∧ some k_ ≠ (.slice Ao59 t257.length co59 : Value).ownBlock ∧ some k_ ≠ (.slice Ao64 t258.length co64 : Value).ownBlock ∧ some k_ ≠ (.slice Ao74 t260.length co74 : Value).ownBlock ∧ some k_ ≠ (.slice Ao84 t239.length co84 : Value).ownBlock) s_.2.1 t268) ∧ (Kd.R (Kd.int .i64) 3 w' w.heap.size (fun k_ => some k_ ≠ (s_.1 : Value).ownBlock ∧ some k_ ≠ (s_.2.1 : Value).ownBlock ∧ some k_ ≠ (s_.2.2.2.1 : Value).ownBlock ∧ some k_ ≠ (.slice Ao53 t222.length co53 : Value).ownBlock ∧ some k_ ≠ (.slice Ao59 t257.length co59 : Value).ownBlock ∧ some k_ ≠ (.slice Ao64 t258.length co64 : Value).ownBlock ∧ some k_ ≠ (.slice Ao74 t260.length co74 : Value).ownBlock ∧ some k_ ≠ (.slice Ao84 t239.length co84 : Value).ownBlock) s_.2.2.1 t272) ∧ (Kd.R (Kd.int .i64) 3 w' w.heap.size (fun k_ => some k_ ≠ (s_.1 : Value).ownBlock ∧ some k_ ≠ (s_.2.1 : Value).ownBlock ∧ some k_ ≠ (s_.2.2.1 : Value).ownBlock ∧ some k_ ≠ (.slice Ao53 t222.length co53 : Value).ownBlock ∧ some k_ ≠ (.slice Ao59 t257.length co59 : Value).ownBlock ∧ some k_ ≠ (.slice Ao64 t258.length co64 : Value).ownBlock ∧ some k_ ≠ (.slice Ao74 t260.length co74 : Value).ownBlock ∧ some k_ ≠ (.slice Ao84 t239.length co84 : Value).ownBlock) s_.2.2.2.1 t276) ∧ (Kd.R (Kd.int .i64) 3 w' w.heap.size (fun k_ => some k_ ≠ (s_.1 : Value).ownBlock ∧ some k_ ≠ (s_.2.1 : Value).ownBlock ∧ some k_ ≠ (s_.2.2.1 : Value).ownBlock ∧ some k_ ≠ (s_.2.2.2.1 : Value).ownBlock ∧ some k_ ≠ (.slice Ao59 t257.length co59 : Value).ownBlock ∧ some k_ ≠ (.slice Ao64 t258.length co64 : Value).ownBlock ∧ some k_ ≠ (.slice Ao74 t260.length co74 : Value).ownBlock ∧ some k_ ≠ (.slice Ao84 t239.length co84 : Value).ownBlock) (.slice Ao53 t222.length co53) t222) ∧ (Kd.R (Kd.int .i64) 3 w' w.heap.size (fun k_ => some k_ ≠ (s_.1 : Value).ownBlock ∧ some k_ ≠ (s_.2.1 : Value).ownBlock ∧ some k_ ≠ (s_.2.2.1 : Value).ownBlock ∧ some k_ ≠ (s_.2.2.2.1 : Value).ownBlock ∧ some k_ ≠ (.slice Ao53 t222.length co53 : Value).ownBlock ∧ some k_ ≠ (.slice Ao64 t258.length co64 : Value).ownBlock ∧ some k_ ≠ (.slice Ao74 t260.length co74 : Value).ownBlock ∧ some k_ ≠ (.slice Ao84 t239.length co84 : Value).ownBlock) (.slice Ao59 t257.length co59) t257) ∧ (Kd.R (Kd.int .i64) 3 w' w.heap.size (fun k_ => some k_ ≠ (s_.1 : Value).ownBlock ∧ some k_ ≠ (s_.2.1 : Value).ownBlock ∧ some k_ ≠ (s_.2.2.1 : Value).ownBlock ∧ some k_ ≠ (s_.2.2.2.1 : Value).ownBlock ∧ some k_ ≠ (.slice Ao53 t222.length co53 : Value).ownBlock ∧ some k_ ≠ (.slice Ao59 t257.length co59 : Value).ownBlock ∧ some k_ ≠ (.slice Ao74 t260.length co74 : Value).ownBlock ∧ some k_ ≠ (.slice Ao84 t239.length co84 : Value).ownBlock) (.slice Ao64 t258.length co64) t258) ∧ (Kd.R (Kd.int .i64) 3 w' w.heap.size (fun k_ => some k_ ≠ (s_.1 : Value).ownBlock ∧ some k_ ≠ (s_.2.1 : Value).ownBlock ∧ some k_ ≠ (s_.2.2.1 : Value).ownBlock ∧ some k_ ≠ (s_.2.2.2.1 : Value).ownBlock ∧ some k_ ≠ (.slice Ao53 t222.length co53 : Value).ownBlock ∧ some k_ ≠ (.slice Ao59 t257.length co59 : Value).ownBlock ∧ some k_ ≠ (.slice Ao64 t258.length co64 : Value).ownBlock ∧ some k_ ≠ (.slice Ao84 t239.length co84 : Value).ownBlock) (.slice Ao74 t260.length co74) t260) ∧ (Kd.R (Kd.int .i64) 3 w' w.heap.size (fun k_ => some k_ ≠ (s_.1 : Value).ownBlock ∧ some k_ ≠ (s_.2.1 : Value).ownBlock ∧ some k_ ≠ (s_.2.2.1 : Value).ownBlock ∧ some k_ ≠ (s_.2.2.2.1 : Value).ownBlock ∧ some k_ ≠ (.slice Ao53 t222.length co53 : Value).ownBlock ∧ some k_ ≠ (.slice Ao59 t257.length co59 : Value).ownBlock ∧ some k_ ≠ (.slice Ao64 t258.length co64 : Value).ownBlock ∧ some k_ ≠ (.slice Ao74 t260.length co74 : Value).ownBlock) (.slice Ao84 t239.length co84) t263) ∧ (w'.heap[gb207]? = some (.cells #[.slice A0_0 l0_0.length c0_0, .slice A0_1 l0_1.length c0_1] 36 (0, 0))) ∧ (w'.heap[gb208]? = some (.cells #[.int .i64 a1_0, .slice A1_1 l1_1.length c1_1] 47 (0, 0))) ∧ (w'.heap[gb225]? = some (.cells #[.int .i64 t221, .slice Ao53 t222.length co53] 50 (0, 0))) ∧ (w'.heap[gb232]? = some (.cells #[.slice Ao59 t257.length co59, .slice Ao64 t258.length co64] 39 (0, 0))) ∧ (w'.heap[gb237]? = some (.cells #[.int .i64 t233, .slice Ao74 t260.length co74] 50 (0, 0))) ∧ (w'.heap[gb242]? = some (.cells #[.int .i64 t238, .slice Ao84 t239.length co84] 50 (0, 0))) ∧ (w'.heap[s_.2.2.2.2]? = some (.cells #[.int .i64 0, .slice none 0 0] 50 (0, 0))) ∧ (w.heap.size ≤ s_.2.2.2.2) ∧ (w.heap.size ≤ s_.2.2.2.2) ∧ (gb207 ≠ s_.2.2.2.2) ∧ (s_.2.2.2.2 ≠ gb207) ∧ (gb208 ≠ s_.2.2.2.2) ∧ (s_.2.2.2.2 ≠ gb208) ∧ (gb225 ≠ s_.2.2.2.2) ∧ (s_.2.2.2.2 ≠ gb225) ∧ (gb232 ≠ s_.2.2.2.2) ∧ (s_.2.2.2.2 ≠ gb232) ∧ (gb237 ≠ s_.2.2.2.2) ∧ (s_.2.2.2.2 ≠ gb237) ∧ (gb242 ≠ s_.2.2.2.2) ∧ (s_.2.2.2.2 ≠ gb242) ∧ (Below w.heap.size w w')) ?_ ?_
                            rotate_left
                            · intro hCont
                              refine two_ (i := 1) (j := 5) (Ni := some 76) (Nj := some 13) #[true, true, true, false, false, false, false] #[true, false, true, false, false, true, false] rfl rfl rfl rfl (by kernel_rfl) (by decide) (by decide) (fun K hK => ?_) (fun K hK => ?_)
                              · skip
                                refine goes_ Try.func23 (by kernel_rfl) rfl #[.agg #[.slice A0_0 l0_0.length c0_0, .slice A0_1 l0_1.length c0_1]] (by rfl) rfl rfl (by (try simp only [List.map_toArray, List.map_cons, List.map_nil]); first | done | rfl | (simp only [List.length_drop, List.length_take]; rfl)) ?_
                                with_reducible refine (laws_toSubstitution.calls kj34 _ _ l0_0 _ _ l0_1 t265 t268 _ ?side1 ?side2 ?side3 ?side4 A119.out).mono ?_
                                (case side1 => exact zc HR0_0.out)
                                (case side2 => exact HC0_0.out)
                                (case side3 => exact zc HR0_1.out)
                                (case side4 => exact HC0_1.out)
                                rintro e w137 ⟨v266, v269, rfl, ho0, ho1, hb⟩
                                refine ⟨_, rfl, ?_⟩
                                have HO267 := zm (Kd.R_lower (Kd.R_new' (Kd.R_new' (Kd.R_new' (Kd.R_new' (Kd.R_new' ho0 (Kd.R_lt (zr HO_226001.out))) (Kd.R_lt (zr HO_233000.out))) (Kd.R_lt (zr HO_233001.out))) (Kd.R_lt (zr HO_238001.out))) (Kd.R_lt (zr HO_243001.out))) (below_size zl))
                                have HO270 := zm (Kd.R_lower (Kd.R_new' (Kd.R_new' (Kd.R_new' (Kd.R_new' (Kd.R_new' ho1 (Kd.R_lt (zr HO_226001.out))) (Kd.R_lt (zr HO_233000.out))) (Kd.R_lt (zr HO_233001.out))) (Kd.R_lt (zr HO_238001.out))) (Kd.R_lt (zr HO_243001.out))) (below_size zl))
                                replace HO_226001 := zm (Kd.R_mono (Kd.R_told (Kd.R_told (Kd.R_old (zr HO_226001.out) hb) (Kd.R_base ho0)) (Kd.R_base ho1)) (fun _ h_ => h_.1))
                                replace HO_233000 := zm (Kd.R_mono (Kd.R_told (Kd.R_told (Kd.R_old (zr HO_233000.out) hb) (Kd.R_base ho0)) (Kd.R_base ho1)) (fun _ h_ => h_.1))
                                replace HO_233001 := zm (Kd.R_mono (Kd.R_told (Kd.R_told (Kd.R_old (zr HO_233001.out) hb) (Kd.R_base ho0)) (Kd.R_base ho1)) (fun _ h_ => h_.1))
                                replace HO_238001 := zm (Kd.R_mono (Kd.R_told (Kd.R_told (Kd.R_old (zr HO_238001.out) hb) (Kd.R_base ho0)) (Kd.R_base ho1)) (fun _ h_ => h_.1))
                                replace HO_243001 := zm (Kd.R_mono (Kd.R_told (Kd.R_told (Kd.R_old (zr HO_243001.out) hb) (Kd.R_base ho0)) (Kd.R_base ho1)) (fun _ h_ => h_.1))
                                replace BK207 := zm (blk_below (zb BK207.out) hb)
                                replace BK208 := zm (blk_below (zb BK208.out) hb)
                                replace BK225 := zm (blk_below (zb BK225.out) hb)
                                replace BK232 := zm (blk_below (zb BK232.out) hb)
                                replace BK237 := zm (blk_below (zb BK237.out) hb)
                                replace BK242 := zm (blk_below (zb BK242.out) hb)
                                replace HB := zm (below_step zl hb)
                                (try clear hb)
                                (try clear hb2)
                                (try clear hk)
                                (try clear hi)
                                (try clear ho0)
                                (try clear ho1)
                                refine hK.out _ _ ⟨(blk_cell BK207.out 0).trans rfl, (blk_cell BK207.out 1).trans rfl, (blk_cell BK208.out 0).trans rfl, (blk_cell BK208.out 1).trans rfl⟩ (fun hHeld => ?_)
                                clear hK K
                                refine norm_ (a' := ?_) ?_ ?_
                                rotate_left
                                · show Act.put _ (some 76) _ = _
                                  simp only [Act.put, List.setIfInBounds_toArray, List.set_cons_zero, List.set_cons_succ, i64_w, i32_w]
                                  rfl
                                refine two_ (i := 3) (j := 5) (Ni := some 78) (Nj := some 13) #[true, true, true, true, false, false, false] #[true, true, true, false, false, true, false] rfl rfl rfl rfl (by kernel_rfl) (by decide) (by decide) (fun K hK => ?_) (fun K hK => ?_)
                                · skip
                                  refine goes_ Try.func32 (by kernel_rfl) rfl #[.agg #[.int .i64 a1_0, .slice A1_1 l1_1.length c1_1]] (by rfl) rfl rfl (by (try simp only [List.map_toArray, List.map_cons, List.map_nil]); first | done | rfl | (simp only [List.length_drop, List.length_take]; rfl)) ?_
                                  with_reducible refine (laws_toFact.calls kj34 a1_0 _ _ l1_1 t271 t272 _ ?side1 ?side2 A120.out).mono ?_
                                  (case side1 => exact zc HR1_1.out)
                                  (case side2 => exact HC1_1.out)
                                  rintro e w138 ⟨v273, rfl, ho0, hb⟩
                                  refine ⟨_, rfl, ?_⟩
                                  have HO274 := zm (Kd.R_lower (Kd.R_new' (Kd.R_new' (Kd.R_new' (Kd.R_new' (Kd.R_new' (Kd.R_new' (Kd.R_new' ho0 (Kd.R_lt (zr HO_226001.out))) (Kd.R_lt (zr HO_233000.out))) (Kd.R_lt (zr HO_233001.out))) (Kd.R_lt (zr HO_238001.out))) (Kd.R_lt (zr HO_243001.out))) (Kd.R_lt (zr HO267.out))) (Kd.R_lt (zr HO270.out))) (below_size zl))
                                  replace HO_226001 := zm (Kd.R_elder' (zr HO_226001.out) (Kd.R_base ho0) hb)
                                  replace HO_233000 := zm (Kd.R_elder' (zr HO_233000.out) (Kd.R_base ho0) hb)
                                  replace HO_233001 := zm (Kd.R_elder' (zr HO_233001.out) (Kd.R_base ho0) hb)
                                  replace HO_238001 := zm (Kd.R_elder' (zr HO_238001.out) (Kd.R_base ho0) hb)
                                  replace HO_243001 := zm (Kd.R_elder' (zr HO_243001.out) (Kd.R_base ho0) hb)
                                  replace HO267 := zm (Kd.R_elder' (zr HO267.out) (Kd.R_base ho0) hb)
                                  replace HO270 := zm (Kd.R_elder' (zr HO270.out) (Kd.R_base ho0) hb)
                                  replace BK207 := zm (blk_below (zb BK207.out) hb)
                                  replace BK208 := zm (blk_below (zb BK208.out) hb)
                                  replace BK225 := zm (blk_below (zb BK225.out) hb)
                                  replace BK232 := zm (blk_below (zb BK232.out) hb)
                                  replace BK237 := zm (blk_below (zb BK237.out) hb)
                                  replace BK242 := zm (blk_below (zb BK242.out) hb)
                                  replace HB := zm (below_step zl hb)
                                  (try clear hb)
                                  (try clear hb2)
                                  (try clear hk)
                                  (try clear hi)
                                  (try clear ho0)
                                  obtain ⟨Ao139, co139, eo139⟩ := Kd.R_slice HO267.out
                                  (first | subst eo139 | (injection eo139 with f1_ f2_ f3_; have f4_ := f1_.symm; have f5_ := f3_.symm; clear f1_ f2_ f3_; subst f4_; subst f5_))
                                  obtain ⟨Ao140, co140, eo140⟩ := Kd.R_slice HO270.out
                                  (first | subst eo140 | (injection eo140 with f1_ f2_ f3_; have f4_ := f1_.symm; have f5_ := f3_.symm; clear f1_ f2_ f3_; subst f4_; subst f5_))
                                  obtain ⟨Ao141, co141, eo141⟩ := Kd.R_slice HO274.out
                                  (first | subst eo141 | (injection eo141 with f1_ f2_ f3_; have f4_ := f1_.symm; have f5_ := f3_.symm; clear f1_ f2_ f3_; subst f4_; subst f5_))
                                  refine hK.out _ _ ⟨(blk_cell BK207.out 0).trans rfl, (blk_cell BK207.out 1).trans rfl, (blk_cell BK208.out 0).trans rfl, (blk_cell BK208.out 1).trans rfl⟩ (fun hHeld => ?_)
                                  clear hK K
                                  refine norm_ (a' := ?_) ?_ ?_
                                  rotate_left
                                  · show Act.put _ (some 78) _ = _
                                    simp only [Act.put, List.setIfInBounds_toArray, List.set_cons_zero, List.set_cons_succ, i64_w, i32_w]
                                    rfl
                                  refine two_ (i := 4) (j := 5) (Ni := some 79) (Nj := some 13) #[true, true, true, true, true, false, false] #[true, true, true, true, false, true, false] rfl rfl rfl rfl (by kernel_rfl) (by decide) (by decide) (fun K hK => ?_) (fun K hK => ?_)
                                  · skip
                                    refine goes_ Try.func38 (by kernel_rfl) rfl #[.agg #[.slice Ao139 t265.length co139, .slice Ao140 t268.length co140], .agg #[.int .i64 t271, .slice Ao141 t272.length co141]] (by rfl) rfl rfl (by (try simp only [List.map_toArray, List.map_cons, List.map_nil]); first | done | rfl | (simp only [List.length_drop, List.length_take]; rfl)) ?_
                                    with_reducible refine (impl_ApplyToFact.calls kj34 _ _ t265 _ _ t268 t271 _ _ t272 t275 t276 _ ?side1 ?side2 ?side3 ?side4 ?side5 ?side6 A121.out).mono ?_
                                    (case side1 => repeat (first | exact (Kd.R_reads' HO267.out).2.2 | (with_reducible refine Kd.C_alloc ?_ _) | (with_reducible refine Kd.C_drewN ?_ _) | (with_reducible refine Kd.C_drew ?_)))
                                    (case side2 => exact (Kd.R_reads' HO267.out).2.1)
                                    (case side3 => repeat (first | exact (Kd.R_reads' HO270.out).2.2 | (with_reducible refine Kd.C_alloc ?_ _) | (with_reducible refine Kd.C_drewN ?_ _) | (with_reducible refine Kd.C_drew ?_)))
                                    (case side4 => exact (Kd.R_reads' HO270.out).2.1)
                                    (case side5 => repeat (first | exact (Kd.R_reads' HO274.out).2.2 | (with_reducible refine Kd.C_alloc ?_ _) | (with_reducible refine Kd.C_drewN ?_ _) | (with_reducible refine Kd.C_drew ?_)))
                                    (case side6 => exact (Kd.R_reads' HO274.out).2.1)
                                    rintro e w142 ⟨v277, rfl, ho0, hb⟩
                                    refine ⟨_, rfl, ?_⟩
                                    have HO278 := zm (Kd.R_lower (Kd.R_new' (Kd.R_new' (Kd.R_new' (Kd.R_new' (Kd.R_new' (Kd.R_new' (Kd.R_new' (Kd.R_new' ho0 (Kd.R_lt (zr HO_226001.out))) (Kd.R_lt (zr HO_233000.out))) (Kd.R_lt (zr HO_233001.out))) (Kd.R_lt (zr HO_238001.out))) (Kd.R_lt (zr HO_243001.out))) (Kd.R_lt (zr HO267.out))) (Kd.R_lt (zr HO270.out))) (Kd.R_lt (zr HO274.out))) (below_size zl))
                                    replace HO_226001 := zm (Kd.R_elder' (zr HO_226001.out) (Kd.R_base ho0) hb)
                                    replace HO_233000 := zm (Kd.R_elder' (zr HO_233000.out) (Kd.R_base ho0) hb)
                                    replace HO_233001 := zm (Kd.R_elder' (zr HO_233001.out) (Kd.R_base ho0) hb)
                                    replace HO_238001 := zm (Kd.R_elder' (zr HO_238001.out) (Kd.R_base ho0) hb)
                                    replace HO_243001 := zm (Kd.R_elder' (zr HO_243001.out) (Kd.R_base ho0) hb)
                                    replace HO267 := zm (Kd.R_elder' (zr HO267.out) (Kd.R_base ho0) hb)
                                    replace HO270 := zm (Kd.R_elder' (zr HO270.out) (Kd.R_base ho0) hb)
                                    replace HO274 := zm (Kd.R_elder' (zr HO274.out) (Kd.R_base ho0) hb)
                                    replace BK207 := zm (blk_below (zb BK207.out) hb)
                                    replace BK208 := zm (blk_below (zb BK208.out) hb)
                                    replace BK225 := zm (blk_below (zb BK225.out) hb)
                                    replace BK232 := zm (blk_below (zb BK232.out) hb)
                                    replace BK237 := zm (blk_below (zb BK237.out) hb)
                                    replace BK242 := zm (blk_below (zb BK242.out) hb)
                                    replace HB := zm (below_step zl hb)
                                    (try clear hb)
                                    (try clear hb2)
                                    (try clear hk)
                                    (try clear hi)
                                    (try clear ho0)
                                    refine hK.out _ _ ⟨(blk_cell BK207.out 0).trans rfl, (blk_cell BK207.out 1).trans rfl, (blk_cell BK208.out 0).trans rfl, (blk_cell BK208.out 1).trans rfl⟩ (fun hHeld => ?_)
                                    clear hK K
                                    refine norm_ (a' := ?_) ?_ ?_
                                    rotate_left
                                    · show Act.put _ (some 79) _ = _
                                      simp only [Act.put, List.setIfInBounds_toArray, List.set_cons_zero, List.set_cons_succ, i64_w, i32_w]
                                      rfl
                                    refine one_ (i := 5) (N := some 13) #[true, true, true, true, true, true, false] rfl rfl (by kernel_rfl) (by decide) (fun K hK => ?_)
                                    refine box_step ?hg (N := 13) ?hd (cs := #[.int .i64 0, .slice none 0 0]) (t := 50) ?hr ?_; (case hd => rfl); (case hg => rfl); (case hr => first | (go_simp; done) | (go_simp; rfl))
                                    intro gb279 hg w143 hbox hb
                                    replace HO_226001 := zm (Kd.R_below (zr HO_226001.out) hb)
                                    replace HO_233000 := zm (Kd.R_below (zr HO_233000.out) hb)
                                    replace HO_233001 := zm (Kd.R_below (zr HO_233001.out) hb)
                                    replace HO_238001 := zm (Kd.R_below (zr HO_238001.out) hb)
                                    replace HO_243001 := zm (Kd.R_below (zr HO_243001.out) hb)
                                    replace HO267 := zm (Kd.R_below (zr HO267.out) hb)
                                    replace HO270 := zm (Kd.R_below (zr HO270.out) hb)
                                    replace HO274 := zm (Kd.R_below (zr HO274.out) hb)
                                    replace HO278 := zm (Kd.R_below (zr HO278.out) hb)
                                    have BK279 := zm (hbox)
                                    have GW279 := zm ((by rw [hg]; exact (below_size zl) : w.heap.size ≤ gb279))
                                    have GE279 := zm ((by rw [hg]; exact (below_size zl) : w.heap.size ≤ gb279))
                                    replace HB := zm (below_step zl hb)
                                    have NB207_279 := zm ((by rw [hg]; exact Nat.ne_of_lt (blk_lt (zb BK207.out)) : gb207 ≠ gb279))
                                    have NB279_207 := zm ((by rw [hg]; exact Nat.ne_of_gt (blk_lt (zb BK207.out)) : gb279 ≠ gb207))
                                    replace BK207 := zm (blk_below (zb BK207.out) hb)
                                    have NB208_279 := zm ((by rw [hg]; exact Nat.ne_of_lt (blk_lt (zb BK208.out)) : gb208 ≠ gb279))
                                    have NB279_208 := zm ((by rw [hg]; exact Nat.ne_of_gt (blk_lt (zb BK208.out)) : gb279 ≠ gb208))
                                    replace BK208 := zm (blk_below (zb BK208.out) hb)
                                    have NB225_279 := zm ((by rw [hg]; exact Nat.ne_of_lt (blk_lt (zb BK225.out)) : gb225 ≠ gb279))
                                    have NB279_225 := zm ((by rw [hg]; exact Nat.ne_of_gt (blk_lt (zb BK225.out)) : gb279 ≠ gb225))
                                    replace BK225 := zm (blk_below (zb BK225.out) hb)
                                    have NB232_279 := zm ((by rw [hg]; exact Nat.ne_of_lt (blk_lt (zb BK232.out)) : gb232 ≠ gb279))
                                    have NB279_232 := zm ((by rw [hg]; exact Nat.ne_of_gt (blk_lt (zb BK232.out)) : gb279 ≠ gb232))
                                    replace BK232 := zm (blk_below (zb BK232.out) hb)
                                    have NB237_279 := zm ((by rw [hg]; exact Nat.ne_of_lt (blk_lt (zb BK237.out)) : gb237 ≠ gb279))
                                    have NB279_237 := zm ((by rw [hg]; exact Nat.ne_of_gt (blk_lt (zb BK237.out)) : gb279 ≠ gb237))
                                    replace BK237 := zm (blk_below (zb BK237.out) hb)
                                    have NB242_279 := zm ((by rw [hg]; exact Nat.ne_of_lt (blk_lt (zb BK242.out)) : gb242 ≠ gb279))
                                    have NB279_242 := zm ((by rw [hg]; exact Nat.ne_of_gt (blk_lt (zb BK242.out)) : gb279 ≠ gb242))
                                    replace BK242 := zm (blk_below (zb BK242.out) hb)
                                    clear hb hbox hg
                                    refine hK.out _ _ ⟨(blk_cell BK207.out 0).trans rfl, (blk_cell BK207.out 1).trans rfl, (blk_cell BK208.out 0).trans rfl, (blk_cell BK208.out 1).trans rfl⟩ (fun hHeld => ?_)
                                    clear hK K
                                    refine norm_ (a' := ?_) ?_ ?_
                                    rotate_left
                                    · show Act.put _ (some 13) _ = _
                                      simp only [Act.put, List.setIfInBounds_toArray, List.set_cons_zero, List.set_cons_succ, i64_w, i32_w]
                                      rfl
                                    exact norm_ (by simp only [putAll, Act.put, List.setIfInBounds_toArray, List.set_cons_zero, List.set_cons_succ]) (hCont (.slice Ao139 t265.length co139, .slice Ao140 t268.length co140, .slice Ao141 t272.length co141, v277, gb279) _ ⟨hHeld, (zr (Kd.R_mono HO267.out (fun _ hk => ⟨hk.1.1.1.1.1.1.1, ⟨hk.1.2, ⟨hk.2, ⟨hk.1.1.1.1.1.1.2, ⟨hk.1.1.1.1.1.2, ⟨hk.1.1.1.1.2, ⟨hk.1.1.1.2, hk.1.1.2⟩⟩⟩⟩⟩⟩⟩))), (zr (Kd.R_mono HO270.out (fun _ hk => ⟨hk.1.1.1.1.1.1.1, ⟨hk.1.2, ⟨hk.2, ⟨hk.1.1.1.1.1.1.2, ⟨hk.1.1.1.1.1.2, ⟨hk.1.1.1.1.2, ⟨hk.1.1.1.2, hk.1.1.2⟩⟩⟩⟩⟩⟩⟩))), (zr (Kd.R_mono HO274.out (fun _ hk => ⟨hk.1.1.2, ⟨hk.1.2, ⟨hk.2, ⟨hk.1.1.1.1.1.1.1.2, ⟨hk.1.1.1.1.1.1.2, ⟨hk.1.1.1.1.1.2, ⟨hk.1.1.1.1.2, hk.1.1.1.2⟩⟩⟩⟩⟩⟩⟩))), (zr (Kd.R_mono HO278.out (fun _ hk => ⟨hk.1.1.2, ⟨hk.1.2, ⟨hk.2, ⟨hk.1.1.1.1.1.1.1.2, ⟨hk.1.1.1.1.1.1.2, ⟨hk.1.1.1.1.1.2, ⟨hk.1.1.1.1.2, hk.1.1.1.2⟩⟩⟩⟩⟩⟩⟩))), (zr (Kd.R_mono HO_226001.out (fun _ hk => ⟨hk.1.1.1.2, ⟨hk.1.1.2, ⟨hk.1.2, ⟨hk.2, ⟨hk.1.1.1.1.1, ⟨hk.1.1.1.1.2.1, ⟨hk.1.1.1.1.2.2.1, hk.1.1.1.1.2.2.2⟩⟩⟩⟩⟩⟩⟩))), (zr (Kd.R_mono HO_233000.out (fun _ hk => ⟨hk.1.1.1.2, ⟨hk.1.1.2, ⟨hk.1.2, ⟨hk.2, ⟨hk.1.1.1.1.1, ⟨hk.1.1.1.1.2.1, ⟨hk.1.1.1.1.2.2.1, hk.1.1.1.1.2.2.2⟩⟩⟩⟩⟩⟩⟩))), (zr (Kd.R_mono HO_233001.out (fun _ hk => ⟨hk.1.1.1.2, ⟨hk.1.1.2, ⟨hk.1.2, ⟨hk.2, ⟨hk.1.1.1.1.1, ⟨hk.1.1.1.1.2.1, ⟨hk.1.1.1.1.2.2.1, hk.1.1.1.1.2.2.2⟩⟩⟩⟩⟩⟩⟩))), (zr (Kd.R_mono HO_238001.out (fun _ hk => ⟨hk.1.1.1.2, ⟨hk.1.1.2, ⟨hk.1.2, ⟨hk.2, ⟨hk.1.1.1.1.1, ⟨hk.1.1.1.1.2.1, ⟨hk.1.1.1.1.2.2.1, hk.1.1.1.1.2.2.2⟩⟩⟩⟩⟩⟩⟩))), (zr (Kd.R_mono HO_243001.out (fun _ hk => ⟨hk.1.1.1.2, ⟨hk.1.1.2, ⟨hk.1.2, ⟨hk.2, ⟨hk.1.1.1.1.1, ⟨hk.1.1.1.1.2.1, ⟨hk.1.1.1.1.2.2.1, hk.1.1.1.1.2.2.2⟩⟩⟩⟩⟩⟩⟩))), (zb BK207.out), (zb BK208.out), (zb BK225.out), (zb BK232.out), (zb BK237.out), (zb BK242.out), (zb BK279.out), GW279.out, GE279.out, NB207_279.out, NB279_207.out, NB208_279.out, NB279_208.out, NB225_279.out, NB279_225.out, NB232_279.out, NB279_232.out, NB237_279.out, NB279_237.out, NB242_279.out, NB279_242.out, zl⟩)
                                  · skip
                                    refine box_step ?hg (N := 13) ?hd (cs := #[.int .i64 0, .slice none 0 0]) (t := 50) ?hr ?_; (case hd => rfl); (case hg => rfl); (case hr => first | (go_simp; done) | (go_simp; rfl))
                                    intro gb279 hg w139 hbox hb
                                    replace HO_226001 := zm (Kd.R_below (zr HO_226001.out) hb)
                                    replace HO_233000 := zm (Kd.R_below (zr HO_233000.out) hb)
                                    replace HO_233001 := zm (Kd.R_below (zr HO_233001.out) hb)
                                    replace HO_238001 := zm (Kd.R_below (zr HO_238001.out) hb)
                                    replace HO_243001 := zm (Kd.R_below (zr HO_243001.out) hb)
                                    replace HO267 := zm (Kd.R_below (zr HO267.out) hb)
                                    replace HO270 := zm (Kd.R_below (zr HO270.out) hb)
                                    replace HO274 := zm (Kd.R_below (zr HO274.out) hb)
                                    have BK279 := zm (hbox)
                                    have GW279 := zm ((by rw [hg]; exact (below_size zl) : w.heap.size ≤ gb279))
                                    have GE279 := zm ((by rw [hg]; exact (below_size zl) : w.heap.size ≤ gb279))
                                    replace HB := zm (below_step zl hb)
                                    have NB207_279 := zm ((by rw [hg]; exact Nat.ne_of_lt (blk_lt (zb BK207.out)) : gb207 ≠ gb279))
                                    have NB279_207 := zm ((by rw [hg]; exact Nat.ne_of_gt (blk_lt (zb BK207.out)) : gb279 ≠ gb207))
                                    replace BK207 := zm (blk_below (zb BK207.out) hb)
                                    have NB208_279 := zm ((by rw [hg]; exact Nat.ne_of_lt (blk_lt (zb BK208.out)) : gb208 ≠ gb279))
                                    have NB279_208 := zm ((by rw [hg]; exact Nat.ne_of_gt (blk_lt (zb BK208.out)) : gb279 ≠ gb208))
                                    replace BK208 := zm (blk_below (zb BK208.out) hb)
                                    have NB225_279 := zm ((by rw [hg]; exact Nat.ne_of_lt (blk_lt (zb BK225.out)) : gb225 ≠ gb279))
                                    have NB279_225 := zm ((by rw [hg]; exact Nat.ne_of_gt (blk_lt (zb BK225.out)) : gb279 ≠ gb225))
                                    replace BK225 := zm (blk_below (zb BK225.out) hb)
                                    have NB232_279 := zm ((by rw [hg]; exact Nat.ne_of_lt (blk_lt (zb BK232.out)) : gb232 ≠ gb279))
                                    have NB279_232 := zm ((by rw [hg]; exact Nat.ne_of_gt (blk_lt (zb BK232.out)) : gb279 ≠ gb232))
                                    replace BK232 := zm (blk_below (zb BK232.out) hb)
                                    have NB237_279 := zm ((by rw [hg]; exact Nat.ne_of_lt (blk_lt (zb BK237.out)) : gb237 ≠ gb279))
                                    have NB279_237 := zm ((by rw [hg]; exact Nat.ne_of_gt (blk_lt (zb BK237.out)) : gb279 ≠ gb237))
                                    replace BK237 := zm (blk_below (zb BK237.out) hb)
                                    have NB242_279 := zm ((by rw [hg]; exact Nat.ne_of_lt (blk_lt (zb BK242.out)) : gb242 ≠ gb279))
                                    have NB279_242 := zm ((by rw [hg]; exact Nat.ne_of_gt (blk_lt (zb BK242.out)) : gb279 ≠ gb242))
                                    replace BK242 := zm (blk_below (zb BK242.out) hb)
                                    clear hb hbox hg
                                    obtain ⟨Ao140, co140, eo140⟩ := Kd.R_slice HO267.out
                                    (first | subst eo140 | (injection eo140 with f1_ f2_ f3_; have f4_ := f1_.symm; have f5_ := f3_.symm; clear f1_ f2_ f3_; subst f4_; subst f5_))
                                    obtain ⟨Ao141, co141, eo141⟩ := Kd.R_slice HO270.out
                                    (first | subst eo141 | (injection eo141 with f1_ f2_ f3_; have f4_ := f1_.symm; have f5_ := f3_.symm; clear f1_ f2_ f3_; subst f4_; subst f5_))
                                    obtain ⟨Ao142, co142, eo142⟩ := Kd.R_slice HO274.out
                                    (first | subst eo142 | (injection eo142 with f1_ f2_ f3_; have f4_ := f1_.symm; have f5_ := f3_.symm; clear f1_ f2_ f3_; subst f4_; subst f5_))
                                    refine hK.out _ _ ⟨(blk_cell BK207.out 0).trans rfl, (blk_cell BK207.out 1).trans rfl, (blk_cell BK208.out 0).trans rfl, (blk_cell BK208.out 1).trans rfl⟩ (fun hHeld => ?_)
                                    clear hK K
                                    refine norm_ (a' := ?_) ?_ ?_
                                    rotate_left
                                    · show Act.put _ (some 13) _ = _
                                      simp only [Act.put, List.setIfInBounds_toArray, List.set_cons_zero, List.set_cons_succ, i64_w, i32_w]
                                      rfl
                                    refine one_ (i := 4) (N := some 79) #[true, true, true, true, true, true, false] rfl rfl (by kernel_rfl) (by decide) (fun K hK => ?_)
                                    refine goes_ Try.func38 (by kernel_rfl) rfl #[.agg #[.slice Ao140 t265.length co140, .slice Ao141 t268.length co141], .agg #[.int .i64 t271, .slice Ao142 t272.length co142]] (by rfl) rfl rfl (by (try simp only [List.map_toArray, List.map_cons, List.map_nil]); first | done | rfl | (simp only [List.length_drop, List.length_take]; rfl)) ?_
                                    with_reducible refine (impl_ApplyToFact.calls kj34 _ _ t265 _ _ t268 t271 _ _ t272 t275 t276 _ ?side1 ?side2 ?side3 ?side4 ?side5 ?side6 A121.out).mono ?_
                                    (case side1 => repeat (first | exact (Kd.R_reads' HO267.out).2.2 | (with_reducible refine Kd.C_alloc ?_ _) | (with_reducible refine Kd.C_drewN ?_ _) | (with_reducible refine Kd.C_drew ?_)))
                                    (case side2 => exact (Kd.R_reads' HO267.out).2.1)
                                    (case side3 => repeat (first | exact (Kd.R_reads' HO270.out).2.2 | (with_reducible refine Kd.C_alloc ?_ _) | (with_reducible refine Kd.C_drewN ?_ _) | (with_reducible refine Kd.C_drew ?_)))
                                    (case side4 => exact (Kd.R_reads' HO270.out).2.1)
                                    (case side5 => repeat (first | exact (Kd.R_reads' HO274.out).2.2 | (with_reducible refine Kd.C_alloc ?_ _) | (with_reducible refine Kd.C_drewN ?_ _) | (with_reducible refine Kd.C_drew ?_)))
                                    (case side6 => exact (Kd.R_reads' HO274.out).2.1)
                                    rintro e w143 ⟨v277, rfl, ho0, hb⟩
                                    refine ⟨_, rfl, ?_⟩
                                    have HO278 := zm (Kd.R_lower (Kd.R_new' (Kd.R_new' (Kd.R_new' (Kd.R_new' (Kd.R_new' (Kd.R_new' (Kd.R_new' (Kd.R_new' ho0 (Kd.R_lt (zr HO_226001.out))) (Kd.R_lt (zr HO_233000.out))) (Kd.R_lt (zr HO_233001.out))) (Kd.R_lt (zr HO_238001.out))) (Kd.R_lt (zr HO_243001.out))) (Kd.R_lt (zr HO267.out))) (Kd.R_lt (zr HO270.out))) (Kd.R_lt (zr HO274.out))) (below_size zl))
                                    replace HO_226001 := zm (Kd.R_elder' (zr HO_226001.out) (Kd.R_base ho0) hb)
                                    replace HO_233000 := zm (Kd.R_elder' (zr HO_233000.out) (Kd.R_base ho0) hb)
                                    replace HO_233001 := zm (Kd.R_elder' (zr HO_233001.out) (Kd.R_base ho0) hb)
                                    replace HO_238001 := zm (Kd.R_elder' (zr HO_238001.out) (Kd.R_base ho0) hb)
                                    replace HO_243001 := zm (Kd.R_elder' (zr HO_243001.out) (Kd.R_base ho0) hb)
                                    replace HO267 := zm (Kd.R_elder' (zr HO267.out) (Kd.R_base ho0) hb)
                                    replace HO270 := zm (Kd.R_elder' (zr HO270.out) (Kd.R_base ho0) hb)
                                    replace HO274 := zm (Kd.R_elder' (zr HO274.out) (Kd.R_base ho0) hb)
                                    replace BK207 := zm (blk_below (zb BK207.out) hb)
                                    replace BK208 := zm (blk_below (zb BK208.out) hb)
                                    replace BK225 := zm (blk_below (zb BK225.out) hb)
                                    replace BK232 := zm (blk_below (zb BK232.out) hb)
                                    replace BK237 := zm (blk_below (zb BK237.out) hb)
                                    replace BK242 := zm (blk_below (zb BK242.out) hb)
                                    replace BK279 := zm (blk_below (zb BK279.out) hb)
                                    replace HB := zm (below_step zl hb)
                                    (try clear hb)
                                    (try clear hb2)
                                    (try clear hk)
                                    (try clear hi)
                                    (try clear ho0)
                                    refine hK.out _ _ ⟨(blk_cell BK207.out 0).trans rfl, (blk_cell BK207.out 1).trans rfl, (blk_cell BK208.out 0).trans rfl, (blk_cell BK208.out 1).trans rfl⟩ (fun hHeld => ?_)
                                    clear hK K
                                    refine norm_ (a' := ?_) ?_ ?_
                                    rotate_left
                                    · show Act.put _ (some 79) _ = _
                                      simp only [Act.put, List.setIfInBounds_toArray, List.set_cons_zero, List.set_cons_succ, i64_w, i32_w]
                                      rfl
                                    exact norm_ (by simp only [putAll, Act.put, List.setIfInBounds_toArray, List.set_cons_zero, List.set_cons_succ]) (hCont (.slice Ao140 t265.length co140, .slice Ao141 t268.length co141, .slice Ao142 t272.length co142, v277, gb279) _ ⟨hHeld, (zr (Kd.R_mono HO267.out (fun _ hk => ⟨hk.1.1.1.1.1.1.1, ⟨hk.1.2, ⟨hk.2, ⟨hk.1.1.1.1.1.1.2, ⟨hk.1.1.1.1.1.2, ⟨hk.1.1.1.1.2, ⟨hk.1.1.1.2, hk.1.1.2⟩⟩⟩⟩⟩⟩⟩))), (zr (Kd.R_mono HO270.out (fun _ hk => ⟨hk.1.1.1.1.1.1.1, ⟨hk.1.2, ⟨hk.2, ⟨hk.1.1.1.1.1.1.2, ⟨hk.1.1.1.1.1.2, ⟨hk.1.1.1.1.2, ⟨hk.1.1.1.2, hk.1.1.2⟩⟩⟩⟩⟩⟩⟩))), (zr (Kd.R_mono HO274.out (fun _ hk => ⟨hk.1.1.2, ⟨hk.1.2, ⟨hk.2, ⟨hk.1.1.1.1.1.1.1.2, ⟨hk.1.1.1.1.1.1.2, ⟨hk.1.1.1.1.1.2, ⟨hk.1.1.1.1.2, hk.1.1.1.2⟩⟩⟩⟩⟩⟩⟩))), (zr (Kd.R_mono HO278.out (fun _ hk => ⟨hk.1.1.2, ⟨hk.1.2, ⟨hk.2, ⟨hk.1.1.1.1.1.1.1.2, ⟨hk.1.1.1.1.1.1.2, ⟨hk.1.1.1.1.1.2, ⟨hk.1.1.1.1.2, hk.1.1.1.2⟩⟩⟩⟩⟩⟩⟩))), (zr (Kd.R_mono HO_226001.out (fun _ hk => ⟨hk.1.1.1.2, ⟨hk.1.1.2, ⟨hk.1.2, ⟨hk.2, ⟨hk.1.1.1.1.1, ⟨hk.1.1.1.1.2.1, ⟨hk.1.1.1.1.2.2.1, hk.1.1.1.1.2.2.2⟩⟩⟩⟩⟩⟩⟩))), (zr (Kd.R_mono HO_233000.out (fun _ hk => ⟨hk.1.1.1.2, ⟨hk.1.1.2, ⟨hk.1.2, ⟨hk.2, ⟨hk.1.1.1.1.1, ⟨hk.1.1.1.1.2.1, ⟨hk.1.1.1.1.2.2.1, hk.1.1.1.1.2.2.2⟩⟩⟩⟩⟩⟩⟩))), (zr (Kd.R_mono HO_233001.out (fun _ hk => ⟨hk.1.1.1.2, ⟨hk.1.1.2, ⟨hk.1.2, ⟨hk.2, ⟨hk.1.1.1.1.1, ⟨hk.1.1.1.1.2.1, ⟨hk.1.1.1.1.2.2.1, hk.1.1.1.1.2.2.2⟩⟩⟩⟩⟩⟩⟩))), (zr (Kd.R_mono HO_238001.out (fun _ hk => ⟨hk.1.1.1.2, ⟨hk.1.1.2, ⟨hk.1.2, ⟨hk.2, ⟨hk.1.1.1.1.1, ⟨hk.1.1.1.1.2.1, ⟨hk.1.1.1.1.2.2.1, hk.1.1.1.1.2.2.2⟩⟩⟩⟩⟩⟩⟩))), (zr (Kd.R_mono HO_243001.out (fun _ hk => ⟨hk.1.1.1.2, ⟨hk.1.1.2, ⟨hk.1.2, ⟨hk.2, ⟨hk.1.1.1.1.1, ⟨hk.1.1.1.1.2.1, ⟨hk.1.1.1.1.2.2.1, hk.1.1.1.1.2.2.2⟩⟩⟩⟩⟩⟩⟩))), (zb BK207.out), (zb BK208.out), (zb BK225.out), (zb BK232.out), (zb BK237.out), (zb BK242.out), (zb BK279.out), GW279.out, GE279.out, NB207_279.out, NB279_207.out, NB208_279.out, NB279_208.out, NB225_279.out, NB279_225.out, NB232_279.out, NB279_232.out, NB237_279.out, NB279_237.out, NB242_279.out, NB279_242.out, zl⟩)
                                · skip
                                  refine box_step ?hg (N := 13) ?hd (cs := #[.int .i64 0, .slice none 0 0]) (t := 50) ?hr ?_; (case hd => rfl); (case hg => rfl); (case hr => first | (go_simp; done) | (go_simp; rfl))
                                  intro gb279 hg w138 hbox hb
                                  replace HO_226001 := zm (Kd.R_below (zr HO_226001.out) hb)
                                  replace HO_233000 := zm (Kd.R_below (zr HO_233000.out) hb)
                                  replace HO_233001 := zm (Kd.R_below (zr HO_233001.out) hb)
                                  replace HO_238001 := zm (Kd.R_below (zr HO_238001.out) hb)
                                  replace HO_243001 := zm (Kd.R_below (zr HO_243001.out) hb)
                                  replace HO267 := zm (Kd.R_below (zr HO267.out) hb)
                                  replace HO270 := zm (Kd.R_below (zr HO270.out) hb)
                                  have BK279 := zm (hbox)
                                  have GW279 := zm ((by rw [hg]; exact (below_size zl) : w.heap.size ≤ gb279))
                                  have GE279 := zm ((by rw [hg]; exact (below_size zl) : w.heap.size ≤ gb279))
                                  replace HB := zm (below_step zl hb)
                                  have NB207_279 := zm ((by rw [hg]; exact Nat.ne_of_lt (blk_lt (zb BK207.out)) : gb207 ≠ gb279))
                                  have NB279_207 := zm ((by rw [hg]; exact Nat.ne_of_gt (blk_lt (zb BK207.out)) : gb279 ≠ gb207))
                                  replace BK207 := zm (blk_below (zb BK207.out) hb)
                                  have NB208_279 := zm ((by rw [hg]; exact Nat.ne_of_lt (blk_lt (zb BK208.out)) : gb208 ≠ gb279))
                                  have NB279_208 := zm ((by rw [hg]; exact Nat.ne_of_gt (blk_lt (zb BK208.out)) : gb279 ≠ gb208))
                                  replace BK208 := zm (blk_below (zb BK208.out) hb)
                                  have NB225_279 := zm ((by rw [hg]; exact Nat.ne_of_lt (blk_lt (zb BK225.out)) : gb225 ≠ gb279))
                                  have NB279_225 := zm ((by rw [hg]; exact Nat.ne_of_gt (blk_lt (zb BK225.out)) : gb279 ≠ gb225))
                                  replace BK225 := zm (blk_below (zb BK225.out) hb)
                                  have NB232_279 := zm ((by rw [hg]; exact Nat.ne_of_lt (blk_lt (zb BK232.out)) : gb232 ≠ gb279))
                                  have NB279_232 := zm ((by rw [hg]; exact Nat.ne_of_gt (blk_lt (zb BK232.out)) : gb279 ≠ gb232))
                                  replace BK232 := zm (blk_below (zb BK232.out) hb)
                                  have NB237_279 := zm ((by rw [hg]; exact Nat.ne_of_lt (blk_lt (zb BK237.out)) : gb237 ≠ gb279))
                                  have NB279_237 := zm ((by rw [hg]; exact Nat.ne_of_gt (blk_lt (zb BK237.out)) : gb279 ≠ gb237))
                                  replace BK237 := zm (blk_below (zb BK237.out) hb)
                                  have NB242_279 := zm ((by rw [hg]; exact Nat.ne_of_lt (blk_lt (zb BK242.out)) : gb242 ≠ gb279))
                                  have NB279_242 := zm ((by rw [hg]; exact Nat.ne_of_gt (blk_lt (zb BK242.out)) : gb279 ≠ gb242))
                                  replace BK242 := zm (blk_below (zb BK242.out) hb)
                                  clear hb hbox hg
                                  refine hK.out _ _ ⟨(blk_cell BK207.out 0).trans rfl, (blk_cell BK207.out 1).trans rfl, (blk_cell BK208.out 0).trans rfl, (blk_cell BK208.out 1).trans rfl⟩ (fun hHeld => ?_)
                                  clear hK K
                                  refine norm_ (a' := ?_) ?_ ?_
                                  rotate_left
                                  · show Act.put _ (some 13) _ = _
                                    simp only [Act.put, List.setIfInBounds_toArray, List.set_cons_zero, List.set_cons_succ, i64_w, i32_w]
                                    rfl
                                  refine one_ (i := 3) (N := some 78) #[true, true, true, true, false, true, false] rfl rfl (by kernel_rfl) (by decide) (fun K hK => ?_)
                                  refine goes_ Try.func32 (by kernel_rfl) rfl #[.agg #[.int .i64 a1_0, .slice A1_1 l1_1.length c1_1]] (by rfl) rfl rfl (by (try simp only [List.map_toArray, List.map_cons, List.map_nil]); first | done | rfl | (simp only [List.length_drop, List.length_take]; rfl)) ?_
                                  with_reducible refine (laws_toFact.calls kj34 a1_0 _ _ l1_1 t271 t272 _ ?side1 ?side2 A120.out).mono ?_
                                  (case side1 => exact zc HR1_1.out)
                                  (case side2 => exact HC1_1.out)
                                  rintro e w139 ⟨v273, rfl, ho0, hb⟩
                                  refine ⟨_, rfl, ?_⟩
                                  have HO274 := zm (Kd.R_lower (Kd.R_new' (Kd.R_new' (Kd.R_new' (Kd.R_new' (Kd.R_new' (Kd.R_new' (Kd.R_new' ho0 (Kd.R_lt (zr HO_226001.out))) (Kd.R_lt (zr HO_233000.out))) (Kd.R_lt (zr HO_233001.out))) (Kd.R_lt (zr HO_238001.out))) (Kd.R_lt (zr HO_243001.out))) (Kd.R_lt (zr HO267.out))) (Kd.R_lt (zr HO270.out))) (below_size zl))
                                  replace HO_226001 := zm (Kd.R_elder' (zr HO_226001.out) (Kd.R_base ho0) hb)
                                  replace HO_233000 := zm (Kd.R_elder' (zr HO_233000.out) (Kd.R_base ho0) hb)
                                  replace HO_233001 := zm (Kd.R_elder' (zr HO_233001.out) (Kd.R_base ho0) hb)
                                  replace HO_238001 := zm (Kd.R_elder' (zr HO_238001.out) (Kd.R_base ho0) hb)
                                  replace HO_243001 := zm (Kd.R_elder' (zr HO_243001.out) (Kd.R_base ho0) hb)
                                  replace HO267 := zm (Kd.R_elder' (zr HO267.out) (Kd.R_base ho0) hb)
                                  replace HO270 := zm (Kd.R_elder' (zr HO270.out) (Kd.R_base ho0) hb)
                                  replace BK207 := zm (blk_below (zb BK207.out) hb)
                                  replace BK208 := zm (blk_below (zb BK208.out) hb)
                                  replace BK225 := zm (blk_below (zb BK225.out) hb)
                                  replace BK232 := zm (blk_below (zb BK232.out) hb)
                                  replace BK237 := zm (blk_below (zb BK237.out) hb)
                                  replace BK242 := zm (blk_below (zb BK242.out) hb)
                                  replace BK279 := zm (blk_below (zb BK279.out) hb)
                                  replace HB := zm (below_step zl hb)
                                  (try clear hb)
                                  (try clear hb2)
                                  (try clear hk)
                                  (try clear hi)
                                  (try clear ho0)
                                  obtain ⟨Ao140, co140, eo140⟩ := Kd.R_slice HO267.out
                                  (first | subst eo140 | (injection eo140 with f1_ f2_ f3_; have f4_ := f1_.symm; have f5_ := f3_.symm; clear f1_ f2_ f3_; subst f4_; subst f5_))
                                  obtain ⟨Ao141, co141, eo141⟩ := Kd.R_slice HO270.out
                                  (first | subst eo141 | (injection eo141 with f1_ f2_ f3_; have f4_ := f1_.symm; have f5_ := f3_.symm; clear f1_ f2_ f3_; subst f4_; subst f5_))
                                  obtain ⟨Ao142, co142, eo142⟩ := Kd.R_slice HO274.out
                                  (first | subst eo142 | (injection eo142 with f1_ f2_ f3_; have f4_ := f1_.symm; have f5_ := f3_.symm; clear f1_ f2_ f3_; subst f4_; subst f5_))
                                  refine hK.out _ _ ⟨(blk_cell BK207.out 0).trans rfl, (blk_cell BK207.out 1).trans rfl, (blk_cell BK208.out 0).trans rfl, (blk_cell BK208.out 1).trans rfl⟩ (fun hHeld => ?_)
                                  clear hK K
                                  refine norm_ (a' := ?_) ?_ ?_
                                  rotate_left
                                  · show Act.put _ (some 78) _ = _
                                    simp only [Act.put, List.setIfInBounds_toArray, List.set_cons_zero, List.set_cons_succ, i64_w, i32_w]
                                    rfl
                                  refine one_ (i := 4) (N := some 79) #[true, true, true, true, true, true, false] rfl rfl (by kernel_rfl) (by decide) (fun K hK => ?_)
                                  refine goes_ Try.func38 (by kernel_rfl) rfl #[.agg #[.slice Ao140 t265.length co140, .slice Ao141 t268.length co141], .agg #[.int .i64 t271, .slice Ao142 t272.length co142]] (by rfl) rfl rfl (by (try simp only [List.map_toArray, List.map_cons, List.map_nil]); first | done | rfl | (simp only [List.length_drop, List.length_take]; rfl)) ?_
                                  with_reducible refine (impl_ApplyToFact.calls kj34 _ _ t265 _ _ t268 t271 _ _ t272 t275 t276 _ ?side1 ?side2 ?side3 ?side4 ?side5 ?side6 A121.out).mono ?_
                                  (case side1 => repeat (first | exact (Kd.R_reads' HO267.out).2.2 | (with_reducible refine Kd.C_alloc ?_ _) | (with_reducible refine Kd.C_drewN ?_ _) | (with_reducible refine Kd.C_drew ?_)))
                                  (case side2 => exact (Kd.R_reads' HO267.out).2.1)
                                  (case side3 => repeat (first | exact (Kd.R_reads' HO270.out).2.2 | (with_reducible refine Kd.C_alloc ?_ _) | (with_reducible refine Kd.C_drewN ?_ _) | (with_reducible refine Kd.C_drew ?_)))
                                  (case side4 => exact (Kd.R_reads' HO270.out).2.1)
                                  (case side5 => repeat (first | exact (Kd.R_reads' HO274.out).2.2 | (with_reducible refine Kd.C_alloc ?_ _) | (with_reducible refine Kd.C_drewN ?_ _) | (with_reducible refine Kd.C_drew ?_)))
                                  (case side6 => exact (Kd.R_reads' HO274.out).2.1)
                                  rintro e w143 ⟨v277, rfl, ho0, hb⟩
                                  refine ⟨_, rfl, ?_⟩
                                  have HO278 := zm (Kd.R_lower (Kd.R_new' (Kd.R_new' (Kd.R_new' (Kd.R_new' (Kd.R_new' (Kd.R_new' (Kd.R_new' (Kd.R_new' ho0 (Kd.R_lt (zr HO_226001.out))) (Kd.R_lt (zr HO_233000.out))) (Kd.R_lt (zr HO_233001.out))) (Kd.R_lt (zr HO_238001.out))) (Kd.R_lt (zr HO_243001.out))) (Kd.R_lt (zr HO267.out))) (Kd.R_lt (zr HO270.out))) (Kd.R_lt (zr HO274.out))) (below_size zl))
                                  replace HO_226001 := zm (Kd.R_elder' (zr HO_226001.out) (Kd.R_base ho0) hb)
                                  replace HO_233000 := zm (Kd.R_elder' (zr HO_233000.out) (Kd.R_base ho0) hb)
                                  replace HO_233001 := zm (Kd.R_elder' (zr HO_233001.out) (Kd.R_base ho0) hb)
                                  replace HO_238001 := zm (Kd.R_elder' (zr HO_238001.out) (Kd.R_base ho0) hb)
                                  replace HO_243001 := zm (Kd.R_elder' (zr HO_243001.out) (Kd.R_base ho0) hb)
                                  replace HO267 := zm (Kd.R_elder' (zr HO267.out) (Kd.R_base ho0) hb)
                                  replace HO270 := zm (Kd.R_elder' (zr HO270.out) (Kd.R_base ho0) hb)
                                  replace HO274 := zm (Kd.R_elder' (zr HO274.out) (Kd.R_base ho0) hb)
                                  replace BK207 := zm (blk_below (zb BK207.out) hb)
                                  replace BK208 := zm (blk_below (zb BK208.out) hb)
                                  replace BK225 := zm (blk_below (zb BK225.out) hb)
                                  replace BK232 := zm (blk_below (zb BK232.out) hb)
                                  replace BK237 := zm (blk_below (zb BK237.out) hb)
                                  replace BK242 := zm (blk_below (zb BK242.out) hb)
                                  replace BK279 := zm (blk_below (zb BK279.out) hb)
                                  replace HB := zm (below_step zl hb)
                                  (try clear hb)
                                  (try clear hb2)
                                  (try clear hk)
                                  (try clear hi)
                                  (try clear ho0)
                                  refine hK.out _ _ ⟨(blk_cell BK207.out 0).trans rfl, (blk_cell BK207.out 1).trans rfl, (blk_cell BK208.out 0).trans rfl, (blk_cell BK208.out 1).trans rfl⟩ (fun hHeld => ?_)
                                  clear hK K
                                  refine norm_ (a' := ?_) ?_ ?_
                                  rotate_left
                                  · show Act.put _ (some 79) _ = _
                                    simp only [Act.put, List.setIfInBounds_toArray, List.set_cons_zero, List.set_cons_succ, i64_w, i32_w]
                                    rfl
                                  exact norm_ (by simp only [putAll, Act.put, List.setIfInBounds_toArray, List.set_cons_zero, List.set_cons_succ]) (hCont (.slice Ao140 t265.length co140, .slice Ao141 t268.length co141, .slice Ao142 t272.length co142, v277, gb279) _ ⟨hHeld, (zr (Kd.R_mono HO267.out (fun _ hk => ⟨hk.1.1.1.1.1.1.1, ⟨hk.1.2, ⟨hk.2, ⟨hk.1.1.1.1.1.1.2, ⟨hk.1.1.1.1.1.2, ⟨hk.1.1.1.1.2, ⟨hk.1.1.1.2, hk.1.1.2⟩⟩⟩⟩⟩⟩⟩))), (zr (Kd.R_mono HO270.out (fun _ hk => ⟨hk.1.1.1.1.1.1.1, ⟨hk.1.2, ⟨hk.2, ⟨hk.1.1.1.1.1.1.2, ⟨hk.1.1.1.1.1.2, ⟨hk.1.1.1.1.2, ⟨hk.1.1.1.2, hk.1.1.2⟩⟩⟩⟩⟩⟩⟩))), (zr (Kd.R_mono HO274.out (fun _ hk => ⟨hk.1.1.2, ⟨hk.1.2, ⟨hk.2, ⟨hk.1.1.1.1.1.1.1.2, ⟨hk.1.1.1.1.1.1.2, ⟨hk.1.1.1.1.1.2, ⟨hk.1.1.1.1.2, hk.1.1.1.2⟩⟩⟩⟩⟩⟩⟩))), (zr (Kd.R_mono HO278.out (fun _ hk => ⟨hk.1.1.2, ⟨hk.1.2, ⟨hk.2, ⟨hk.1.1.1.1.1.1.1.2, ⟨hk.1.1.1.1.1.1.2, ⟨hk.1.1.1.1.1.2, ⟨hk.1.1.1.1.2, hk.1.1.1.2⟩⟩⟩⟩⟩⟩⟩))), (zr (Kd.R_mono HO_226001.out (fun _ hk => ⟨hk.1.1.1.2, ⟨hk.1.1.2, ⟨hk.1.2, ⟨hk.2, ⟨hk.1.1.1.1.1, ⟨hk.1.1.1.1.2.1, ⟨hk.1.1.1.1.2.2.1, hk.1.1.1.1.2.2.2⟩⟩⟩⟩⟩⟩⟩))), (zr (Kd.R_mono HO_233000.out (fun _ hk => ⟨hk.1.1.1.2, ⟨hk.1.1.2, ⟨hk.1.2, ⟨hk.2, ⟨hk.1.1.1.1.1, ⟨hk.1.1.1.1.2.1, ⟨hk.1.1.1.1.2.2.1, hk.1.1.1.1.2.2.2⟩⟩⟩⟩⟩⟩⟩))), (zr (Kd.R_mono HO_233001.out (fun _ hk => ⟨hk.1.1.1.2, ⟨hk.1.1.2, ⟨hk.1.2, ⟨hk.2, ⟨hk.1.1.1.1.1, ⟨hk.1.1.1.1.2.1, ⟨hk.1.1.1.1.2.2.1, hk.1.1.1.1.2.2.2⟩⟩⟩⟩⟩⟩⟩))), (zr (Kd.R_mono HO_238001.out (fun _ hk => ⟨hk.1.1.1.2, ⟨hk.1.1.2, ⟨hk.1.2, ⟨hk.2, ⟨hk.1.1.1.1.1, ⟨hk.1.1.1.1.2.1, ⟨hk.1.1.1.1.2.2.1, hk.1.1.1.1.2.2.2⟩⟩⟩⟩⟩⟩⟩))), (zr (Kd.R_mono HO_243001.out (fun _ hk => ⟨hk.1.1.1.2, ⟨hk.1.1.2, ⟨hk.1.2, ⟨hk.2, ⟨hk.1.1.1.1.1, ⟨hk.1.1.1.1.2.1, ⟨hk.1.1.1.1.2.2.1, hk.1.1.1.1.2.2.2⟩⟩⟩⟩⟩⟩⟩))), (zb BK207.out), (zb BK208.out), (zb BK225.out), (zb BK232.out), (zb BK237.out), (zb BK242.out), (zb BK279.out), GW279.out, GE279.out, NB207_279.out, NB279_207.out, NB208_279.out, NB279_208.out, NB225_279.out, NB279_225.out, NB232_279.out, NB279_232.out, NB237_279.out, NB279_237.out, NB242_279.out, NB279_242.out, zl⟩)
                              · skip
                                refine box_step ?hg (N := 13) ?hd (cs := #[.int .i64 0, .slice none 0 0]) (t := 50) ?hr ?_; (case hd => rfl); (case hg => rfl); (case hr => first | (go_simp; done) | (go_simp; rfl))
                                intro gb279 hg w137 hbox hb
                                replace HO_226001 := zm (Kd.R_below (zr HO_226001.out) hb)
                                replace HO_233000 := zm (Kd.R_below (zr HO_233000.out) hb)
                                replace HO_233001 := zm (Kd.R_below (zr HO_233001.out) hb)
                                replace HO_238001 := zm (Kd.R_below (zr HO_238001.out) hb)
                                replace HO_243001 := zm (Kd.R_below (zr HO_243001.out) hb)
                                have BK279 := zm (hbox)
                                have GW279 := zm ((by rw [hg]; exact (below_size zl) : w.heap.size ≤ gb279))
                                have GE279 := zm ((by rw [hg]; exact (below_size zl) : w.heap.size ≤ gb279))
                                replace HB := zm (below_step zl hb)
                                have NB207_279 := zm ((by rw [hg]; exact Nat.ne_of_lt (blk_lt (zb BK207.out)) : gb207 ≠ gb279))
                                have NB279_207 := zm ((by rw [hg]; exact Nat.ne_of_gt (blk_lt (zb BK207.out)) : gb279 ≠ gb207))
                                replace BK207 := zm (blk_below (zb BK207.out) hb)
                                have NB208_279 := zm ((by rw [hg]; exact Nat.ne_of_lt (blk_lt (zb BK208.out)) : gb208 ≠ gb279))
                                have NB279_208 := zm ((by rw [hg]; exact Nat.ne_of_gt (blk_lt (zb BK208.out)) : gb279 ≠ gb208))
                                replace BK208 := zm (blk_below (zb BK208.out) hb)
                                have NB225_279 := zm ((by rw [hg]; exact Nat.ne_of_lt (blk_lt (zb BK225.out)) : gb225 ≠ gb279))
                                have NB279_225 := zm ((by rw [hg]; exact Nat.ne_of_gt (blk_lt (zb BK225.out)) : gb279 ≠ gb225))
                                replace BK225 := zm (blk_below (zb BK225.out) hb)
                                have NB232_279 := zm ((by rw [hg]; exact Nat.ne_of_lt (blk_lt (zb BK232.out)) : gb232 ≠ gb279))
                                have NB279_232 := zm ((by rw [hg]; exact Nat.ne_of_gt (blk_lt (zb BK232.out)) : gb279 ≠ gb232))
                                replace BK232 := zm (blk_below (zb BK232.out) hb)
                                have NB237_279 := zm ((by rw [hg]; exact Nat.ne_of_lt (blk_lt (zb BK237.out)) : gb237 ≠ gb279))
                                have NB279_237 := zm ((by rw [hg]; exact Nat.ne_of_gt (blk_lt (zb BK237.out)) : gb279 ≠ gb237))
                                replace BK237 := zm (blk_below (zb BK237.out) hb)
                                have NB242_279 := zm ((by rw [hg]; exact Nat.ne_of_lt (blk_lt (zb BK242.out)) : gb242 ≠ gb279))
                                have NB279_242 := zm ((by rw [hg]; exact Nat.ne_of_gt (blk_lt (zb BK242.out)) : gb279 ≠ gb242))
                                replace BK242 := zm (blk_below (zb BK242.out) hb)
                                clear hb hbox hg
                                refine hK.out _ _ ⟨(blk_cell BK207.out 0).trans rfl, (blk_cell BK207.out 1).trans rfl, (blk_cell BK208.out 0).trans rfl, (blk_cell BK208.out 1).trans rfl⟩ (fun hHeld => ?_)
                                clear hK K
                                refine norm_ (a' := ?_) ?_ ?_
                                rotate_left
                                · show Act.put _ (some 13) _ = _
                                  simp only [Act.put, List.setIfInBounds_toArray, List.set_cons_zero, List.set_cons_succ, i64_w, i32_w]
                                  rfl
                                refine one_ (i := 1) (N := some 76) #[true, true, true, false, false, true, false] rfl rfl (by kernel_rfl) (by decide) (fun K hK => ?_)
                                refine goes_ Try.func23 (by kernel_rfl) rfl #[.agg #[.slice A0_0 l0_0.length c0_0, .slice A0_1 l0_1.length c0_1]] (by rfl) rfl rfl (by (try simp only [List.map_toArray, List.map_cons, List.map_nil]); first | done | rfl | (simp only [List.length_drop, List.length_take]; rfl)) ?_
                                with_reducible refine (laws_toSubstitution.calls kj34 _ _ l0_0 _ _ l0_1 t265 t268 _ ?side1 ?side2 ?side3 ?side4 A119.out).mono ?_
                                (case side1 => exact zc HR0_0.out)
                                (case side2 => exact HC0_0.out)
                                (case side3 => exact zc HR0_1.out)
                                (case side4 => exact HC0_1.out)
                                rintro e w138 ⟨v266, v269, rfl, ho0, ho1, hb⟩
                                refine ⟨_, rfl, ?_⟩
                                have HO267 := zm (Kd.R_lower (Kd.R_new' (Kd.R_new' (Kd.R_new' (Kd.R_new' (Kd.R_new' ho0 (Kd.R_lt (zr HO_226001.out))) (Kd.R_lt (zr HO_233000.out))) (Kd.R_lt (zr HO_233001.out))) (Kd.R_lt (zr HO_238001.out))) (Kd.R_lt (zr HO_243001.out))) (below_size zl))
                                have HO270 := zm (Kd.R_lower (Kd.R_new' (Kd.R_new' (Kd.R_new' (Kd.R_new' (Kd.R_new' ho1 (Kd.R_lt (zr HO_226001.out))) (Kd.R_lt (zr HO_233000.out))) (Kd.R_lt (zr HO_233001.out))) (Kd.R_lt (zr HO_238001.out))) (Kd.R_lt (zr HO_243001.out))) (below_size zl))
                                replace HO_226001 := zm (Kd.R_mono (Kd.R_told (Kd.R_told (Kd.R_old (zr HO_226001.out) hb) (Kd.R_base ho0)) (Kd.R_base ho1)) (fun _ h_ => h_.1))
                                replace HO_233000 := zm (Kd.R_mono (Kd.R_told (Kd.R_told (Kd.R_old (zr HO_233000.out) hb) (Kd.R_base ho0)) (Kd.R_base ho1)) (fun _ h_ => h_.1))
                                replace HO_233001 := zm (Kd.R_mono (Kd.R_told (Kd.R_told (Kd.R_old (zr HO_233001.out) hb) (Kd.R_base ho0)) (Kd.R_base ho1)) (fun _ h_ => h_.1))
                                replace HO_238001 := zm (Kd.R_mono (Kd.R_told (Kd.R_told (Kd.R_old (zr HO_238001.out) hb) (Kd.R_base ho0)) (Kd.R_base ho1)) (fun _ h_ => h_.1))
                                replace HO_243001 := zm (Kd.R_mono (Kd.R_told (Kd.R_told (Kd.R_old (zr HO_243001.out) hb) (Kd.R_base ho0)) (Kd.R_base ho1)) (fun _ h_ => h_.1))
                                replace BK207 := zm (blk_below (zb BK207.out) hb)
                                replace BK208 := zm (blk_below (zb BK208.out) hb)
                                replace BK225 := zm (blk_below (zb BK225.out) hb)
                                replace BK232 := zm (blk_below (zb BK232.out) hb)
                                replace BK237 := zm (blk_below (zb BK237.out) hb)
                                replace BK242 := zm (blk_below (zb BK242.out) hb)
                                replace BK279 := zm (blk_below (zb BK279.out) hb)
                                replace HB := zm (below_step zl hb)
                                (try clear hb)
                                (try clear hb2)
                                (try clear hk)
                                (try clear hi)
                                (try clear ho0)
                                (try clear ho1)
                                refine hK.out _ _ ⟨(blk_cell BK207.out 0).trans rfl, (blk_cell BK207.out 1).trans rfl, (blk_cell BK208.out 0).trans rfl, (blk_cell BK208.out 1).trans rfl⟩ (fun hHeld => ?_)
                                clear hK K
                                refine norm_ (a' := ?_) ?_ ?_
                                rotate_left
                                · show Act.put _ (some 76) _ = _
                                  simp only [Act.put, List.setIfInBounds_toArray, List.set_cons_zero, List.set_cons_succ, i64_w, i32_w]
                                  rfl
                                refine one_ (i := 3) (N := some 78) #[true, true, true, true, false, true, false] rfl rfl (by kernel_rfl) (by decide) (fun K hK => ?_)
                                refine goes_ Try.func32 (by kernel_rfl) rfl #[.agg #[.int .i64 a1_0, .slice A1_1 l1_1.length c1_1]] (by rfl) rfl rfl (by (try simp only [List.map_toArray, List.map_cons, List.map_nil]); first | done | rfl | (simp only [List.length_drop, List.length_take]; rfl)) ?_
                                with_reducible refine (laws_toFact.calls kj34 a1_0 _ _ l1_1 t271 t272 _ ?side1 ?side2 A120.out).mono ?_
                                (case side1 => exact zc HR1_1.out)
                                (case side2 => exact HC1_1.out)
                                rintro e w139 ⟨v273, rfl, ho0, hb⟩
                                refine ⟨_, rfl, ?_⟩
                                have HO274 := zm (Kd.R_lower (Kd.R_new' (Kd.R_new' (Kd.R_new' (Kd.R_new' (Kd.R_new' (Kd.R_new' (Kd.R_new' ho0 (Kd.R_lt (zr HO_226001.out))) (Kd.R_lt (zr HO_233000.out))) (Kd.R_lt (zr HO_233001.out))) (Kd.R_lt (zr HO_238001.out))) (Kd.R_lt (zr HO_243001.out))) (Kd.R_lt (zr HO267.out))) (Kd.R_lt (zr HO270.out))) (below_size zl))
                                replace HO_226001 := zm (Kd.R_elder' (zr HO_226001.out) (Kd.R_base ho0) hb)
                                replace HO_233000 := zm (Kd.R_elder' (zr HO_233000.out) (Kd.R_base ho0) hb)
                                replace HO_233001 := zm (Kd.R_elder' (zr HO_233001.out) (Kd.R_base ho0) hb)
                                replace HO_238001 := zm (Kd.R_elder' (zr HO_238001.out) (Kd.R_base ho0) hb)
                                replace HO_243001 := zm (Kd.R_elder' (zr HO_243001.out) (Kd.R_base ho0) hb)
                                replace HO267 := zm (Kd.R_elder' (zr HO267.out) (Kd.R_base ho0) hb)
                                replace HO270 := zm (Kd.R_elder' (zr HO270.out) (Kd.R_base ho0) hb)
                                replace BK207 := zm (blk_below (zb BK207.out) hb)
                                replace BK208 := zm (blk_below (zb BK208.out) hb)
                                replace BK225 := zm (blk_below (zb BK225.out) hb)
                                replace BK232 := zm (blk_below (zb BK232.out) hb)
                                replace BK237 := zm (blk_below (zb BK237.out) hb)
                                replace BK242 := zm (blk_below (zb BK242.out) hb)
                                replace BK279 := zm (blk_below (zb BK279.out) hb)
                                replace HB := zm (below_step zl hb)
                                (try clear hb)
                                (try clear hb2)
                                (try clear hk)
                                (try clear hi)
                                (try clear ho0)
                                obtain ⟨Ao140, co140, eo140⟩ := Kd.R_slice HO267.out
                                (first | subst eo140 | (injection eo140 with f1_ f2_ f3_; have f4_ := f1_.symm; have f5_ := f3_.symm; clear f1_ f2_ f3_; subst f4_; subst f5_))
                                obtain ⟨Ao141, co141, eo141⟩ := Kd.R_slice HO270.out
                                (first | subst eo141 | (injection eo141 with f1_ f2_ f3_; have f4_ := f1_.symm; have f5_ := f3_.symm; clear f1_ f2_ f3_; subst f4_; subst f5_))
                                obtain ⟨Ao142, co142, eo142⟩ := Kd.R_slice HO274.out
                                (first | subst eo142 | (injection eo142 with f1_ f2_ f3_; have f4_ := f1_.symm; have f5_ := f3_.symm; clear f1_ f2_ f3_; subst f4_; subst f5_))
                                refine hK.out _ _ ⟨(blk_cell BK207.out 0).trans rfl, (blk_cell BK207.out 1).trans rfl, (blk_cell BK208.out 0).trans rfl, (blk_cell BK208.out 1).trans rfl⟩ (fun hHeld => ?_)
                                clear hK K
                                refine norm_ (a' := ?_) ?_ ?_
                                rotate_left
                                · show Act.put _ (some 78) _ = _
                                  simp only [Act.put, List.setIfInBounds_toArray, List.set_cons_zero, List.set_cons_succ, i64_w, i32_w]
                                  rfl
                                refine one_ (i := 4) (N := some 79) #[true, true, true, true, true, true, false] rfl rfl (by kernel_rfl) (by decide) (fun K hK => ?_)
                                refine goes_ Try.func38 (by kernel_rfl) rfl #[.agg #[.slice Ao140 t265.length co140, .slice Ao141 t268.length co141], .agg #[.int .i64 t271, .slice Ao142 t272.length co142]] (by rfl) rfl rfl (by (try simp only [List.map_toArray, List.map_cons, List.map_nil]); first | done | rfl | (simp only [List.length_drop, List.length_take]; rfl)) ?_
                                with_reducible refine (impl_ApplyToFact.calls kj34 _ _ t265 _ _ t268 t271 _ _ t272 t275 t276 _ ?side1 ?side2 ?side3 ?side4 ?side5 ?side6 A121.out).mono ?_
                                (case side1 => repeat (first | exact (Kd.R_reads' HO267.out).2.2 | (with_reducible refine Kd.C_alloc ?_ _) | (with_reducible refine Kd.C_drewN ?_ _) | (with_reducible refine Kd.C_drew ?_)))
                                (case side2 => exact (Kd.R_reads' HO267.out).2.1)
                                (case side3 => repeat (first | exact (Kd.R_reads' HO270.out).2.2 | (with_reducible refine Kd.C_alloc ?_ _) | (with_reducible refine Kd.C_drewN ?_ _) | (with_reducible refine Kd.C_drew ?_)))
                                (case side4 => exact (Kd.R_reads' HO270.out).2.1)
                                (case side5 => repeat (first | exact (Kd.R_reads' HO274.out).2.2 | (with_reducible refine Kd.C_alloc ?_ _) | (with_reducible refine Kd.C_drewN ?_ _) | (with_reducible refine Kd.C_drew ?_)))
                                (case side6 => exact (Kd.R_reads' HO274.out).2.1)
                                rintro e w143 ⟨v277, rfl, ho0, hb⟩
                                refine ⟨_, rfl, ?_⟩
                                have HO278 := zm (Kd.R_lower (Kd.R_new' (Kd.R_new' (Kd.R_new' (Kd.R_new' (Kd.R_new' (Kd.R_new' (Kd.R_new' (Kd.R_new' ho0 (Kd.R_lt (zr HO_226001.out))) (Kd.R_lt (zr HO_233000.out))) (Kd.R_lt (zr HO_233001.out))) (Kd.R_lt (zr HO_238001.out))) (Kd.R_lt (zr HO_243001.out))) (Kd.R_lt (zr HO267.out))) (Kd.R_lt (zr HO270.out))) (Kd.R_lt (zr HO274.out))) (below_size zl))
                                replace HO_226001 := zm (Kd.R_elder' (zr HO_226001.out) (Kd.R_base ho0) hb)
                                replace HO_233000 := zm (Kd.R_elder' (zr HO_233000.out) (Kd.R_base ho0) hb)
                                replace HO_233001 := zm (Kd.R_elder' (zr HO_233001.out) (Kd.R_base ho0) hb)
                                replace HO_238001 := zm (Kd.R_elder' (zr HO_238001.out) (Kd.R_base ho0) hb)
                                replace HO_243001 := zm (Kd.R_elder' (zr HO_243001.out) (Kd.R_base ho0) hb)
                                replace HO267 := zm (Kd.R_elder' (zr HO267.out) (Kd.R_base ho0) hb)
                                replace HO270 := zm (Kd.R_elder' (zr HO270.out) (Kd.R_base ho0) hb)
                                replace HO274 := zm (Kd.R_elder' (zr HO274.out) (Kd.R_base ho0) hb)
                                replace BK207 := zm (blk_below (zb BK207.out) hb)
                                replace BK208 := zm (blk_below (zb BK208.out) hb)
                                replace BK225 := zm (blk_below (zb BK225.out) hb)
                                replace BK232 := zm (blk_below (zb BK232.out) hb)
                                replace BK237 := zm (blk_below (zb BK237.out) hb)
                                replace BK242 := zm (blk_below (zb BK242.out) hb)
                                replace BK279 := zm (blk_below (zb BK279.out) hb)
                                replace HB := zm (below_step zl hb)
                                (try clear hb)
                                (try clear hb2)
                                (try clear hk)
                                (try clear hi)
                                (try clear ho0)
                                refine hK.out _ _ ⟨(blk_cell BK207.out 0).trans rfl, (blk_cell BK207.out 1).trans rfl, (blk_cell BK208.out 0).trans rfl, (blk_cell BK208.out 1).trans rfl⟩ (fun hHeld => ?_)
                                clear hK K
                                refine norm_ (a' := ?_) ?_ ?_
                                rotate_left
                                · show Act.put _ (some 79) _ = _
                                  simp only [Act.put, List.setIfInBounds_toArray, List.set_cons_zero, List.set_cons_succ, i64_w, i32_w]
                                  rfl
                                exact norm_ (by simp only [putAll, Act.put, List.setIfInBounds_toArray, List.set_cons_zero, List.set_cons_succ]) (hCont (.slice Ao140 t265.length co140, .slice Ao141 t268.length co141, .slice Ao142 t272.length co142, v277, gb279) _ ⟨hHeld, (zr (Kd.R_mono HO267.out (fun _ hk => ⟨hk.1.1.1.1.1.1.1, ⟨hk.1.2, ⟨hk.2, ⟨hk.1.1.1.1.1.1.2, ⟨hk.1.1.1.1.1.2, ⟨hk.1.1.1.1.2, ⟨hk.1.1.1.2, hk.1.1.2⟩⟩⟩⟩⟩⟩⟩))), (zr (Kd.R_mono HO270.out (fun _ hk => ⟨hk.1.1.1.1.1.1.1, ⟨hk.1.2, ⟨hk.2, ⟨hk.1.1.1.1.1.1.2, ⟨hk.1.1.1.1.1.2, ⟨hk.1.1.1.1.2, ⟨hk.1.1.1.2, hk.1.1.2⟩⟩⟩⟩⟩⟩⟩))), (zr (Kd.R_mono HO274.out (fun _ hk => ⟨hk.1.1.2, ⟨hk.1.2, ⟨hk.2, ⟨hk.1.1.1.1.1.1.1.2, ⟨hk.1.1.1.1.1.1.2, ⟨hk.1.1.1.1.1.2, ⟨hk.1.1.1.1.2, hk.1.1.1.2⟩⟩⟩⟩⟩⟩⟩))), (zr (Kd.R_mono HO278.out (fun _ hk => ⟨hk.1.1.2, ⟨hk.1.2, ⟨hk.2, ⟨hk.1.1.1.1.1.1.1.2, ⟨hk.1.1.1.1.1.1.2, ⟨hk.1.1.1.1.1.2, ⟨hk.1.1.1.1.2, hk.1.1.1.2⟩⟩⟩⟩⟩⟩⟩))), (zr (Kd.R_mono HO_226001.out (fun _ hk => ⟨hk.1.1.1.2, ⟨hk.1.1.2, ⟨hk.1.2, ⟨hk.2, ⟨hk.1.1.1.1.1, ⟨hk.1.1.1.1.2.1, ⟨hk.1.1.1.1.2.2.1, hk.1.1.1.1.2.2.2⟩⟩⟩⟩⟩⟩⟩))), (zr (Kd.R_mono HO_233000.out (fun _ hk => ⟨hk.1.1.1.2, ⟨hk.1.1.2, ⟨hk.1.2, ⟨hk.2, ⟨hk.1.1.1.1.1, ⟨hk.1.1.1.1.2.1, ⟨hk.1.1.1.1.2.2.1, hk.1.1.1.1.2.2.2⟩⟩⟩⟩⟩⟩⟩))), (zr (Kd.R_mono HO_233001.out (fun _ hk => ⟨hk.1.1.1.2, ⟨hk.1.1.2, ⟨hk.1.2, ⟨hk.2, ⟨hk.1.1.1.1.1, ⟨hk.1.1.1.1.2.1, ⟨hk.1.1.1.1.2.2.1, hk.1.1.1.1.2.2.2⟩⟩⟩⟩⟩⟩⟩))), (zr (Kd.R_mono HO_238001.out (fun _ hk => ⟨hk.1.1.1.2, ⟨hk.1.1.2, ⟨hk.1.2, ⟨hk.2, ⟨hk.1.1.1.1.1, ⟨hk.1.1.1.1.2.1, ⟨hk.1.1.1.1.2.2.1, hk.1.1.1.1.2.2.2⟩⟩⟩⟩⟩⟩⟩))), (zr (Kd.R_mono HO_243001.out (fun _ hk => ⟨hk.1.1.1.2, ⟨hk.1.1.2, ⟨hk.1.2, ⟨hk.2, ⟨hk.1.1.1.1.1, ⟨hk.1.1.1.1.2.1, ⟨hk.1.1.1.1.2.2.1, hk.1.1.1.1.2.2.2⟩⟩⟩⟩⟩⟩⟩))), (zb BK207.out), (zb BK208.out), (zb BK225.out), (zb BK232.out), (zb BK237.out), (zb BK242.out), (zb BK279.out), GW279.out, GE279.out, NB207_279.out, NB279_207.out, NB208_279.out, NB279_208.out, NB225_279.out, NB279_225.out, NB232_279.out, NB279_232.out, NB237_279.out, NB279_237.out, NB242_279.out, NB279_242.out, zl⟩)
                            rintro ⟨v266, v269, v273, v277, gb279⟩ w144 ⟨hS_, h0_, h1_, h2_, h3_, h4_, h5_, h6_, h7_, h8_, h9_, h10_, h11_, h12_, h13_, h14_, h15_, h16_, h17_, h18_, h19_, h20_, h21_, h22_, h23_, h24_, h25_, h26_, h27_, h28_, h29_, h30_⟩
                            have n0_ : Aside0 (Kd.R (Kd.int .i64) 3 w144 w.heap.size (fun k_ => some k_ ≠ (v269 : Value).ownBlock ∧ some k_ ≠ (v273 : Value).ownBlock ∧ some k_ ≠ (v277 : Value).ownBlock ∧ some k_ ≠ (.slice Ao53 t222.length co53 : Value).ownBlock ∧ some k_ ≠ (.slice Ao59 t257.length co59 : Value).ownBlock ∧ some k_ ≠ (.slice Ao64 t258.length co64 : Value).ownBlock ∧ some k_ ≠ (.slice Ao74 t260.length co74 : Value).ownBlock ∧ some k_ ≠ (.slice Ao84 t239.length co84 : Value).ownBlock) v266 t265) := ⟨h0_⟩
                            have n1_ : Aside0 (Kd.R (Kd.int .i64) 3 w144 w.heap.size (fun k_ => some k_ ≠ (v266 : Value).ownBlock ∧ some k_ ≠ (v273 : Value).ownBlock ∧ some k_ ≠ (v277 : Value).ownBlock ∧ some k_ ≠ (.slice Ao53 t222.length co53 : Value).ownBlock ∧ some k_ ≠ (.slice Ao59 t257.length co59 : Value).ownBlock ∧ some k_ ≠ (.slice Ao64 t258.length co64 : Value).ownBlock ∧ some k_ ≠ (.slice Ao74 t260.length co74 : Value).ownBlock ∧ some k_ ≠ (.slice Ao84 t239.length co84 : Value).ownBlock) v269 t268) := ⟨h1_⟩
                            have n2_ : Aside0 (Kd.R (Kd.int .i64) 3 w144 w.heap.size (fun k_ => some k_ ≠ (v266 : Value).ownBlock ∧ some k_ ≠ (v269 : Value).ownBlock ∧ some k_ ≠ (v277 : Value).ownBlock ∧ some k_ ≠ (.slice Ao53 t222.length co53 : Value).ownBlock ∧ some k_ ≠ (.slice Ao59 t257.length co59 : Value).ownBlock ∧ some k_ ≠ (.slice Ao64 t258.length co64 : Value).ownBlock ∧ some k_ ≠ (.slice Ao74 t260.length co74 : Value).ownBlock ∧ some k_ ≠ (.slice Ao84 t239.length co84 : Value).ownBlock) v273 t272) := ⟨h2_⟩
                            have n3_ : Aside0 (Kd.R (Kd.int .i64) 3 w144 w.heap.size (fun k_ => some k_ ≠ (v266 : Value).ownBlock ∧ some k_ ≠ (v269 : Value).ownBlock ∧ some k_ ≠ (v273 : Value).ownBlock ∧ some k_ ≠ (.slice Ao53 t222.length co53 : Value).ownBlock ∧ some k_ ≠ (.slice Ao59 t257.length co59 : Value).ownBlock ∧ some k_ ≠ (.slice Ao64 t258.length co64 : Value).ownBlock ∧ some k_ ≠ (.slice Ao74 t260.length co74 : Value).ownBlock ∧ some k_ ≠ (.slice Ao84 t239.length co84 : Value).ownBlock) v277 t276) := ⟨h3_⟩
                            have n4_ : Aside0 (Kd.R (Kd.int .i64) 3 w144 w.heap.size (fun k_ => some k_ ≠ (v266 : Value).ownBlock ∧ some k_ ≠ (v269 : Value).ownBlock ∧ some k_ ≠ (v273 : Value).ownBlock ∧ some k_ ≠ (v277 : Value).ownBlock ∧ some k_ ≠ (.slice Ao59 t257.length co59 : Value).ownBlock ∧ some k_ ≠ (.slice Ao64 t258.length co64 : Value).ownBlock ∧ some k_ ≠ (.slice Ao74 t260.length co74 : Value).ownBlock ∧ some k_ ≠ (.slice Ao84 t239.length co84 : Value).ownBlock) (.slice Ao53 t222.length co53) t222) := ⟨h4_⟩
                            have n5_ : Aside0 (Kd.R (Kd.int .i64) 3 w144 w.heap.size (fun k_ => some k_ ≠ (v266 : Value).ownBlock ∧ some k_ ≠ (v269 : Value).ownBlock ∧ some k_ ≠ (v273 : Value).ownBlock ∧ some k_ ≠ (v277 : Value).ownBlock ∧ some k_ ≠ (.slice Ao53 t222.length co53 : Value).ownBlock ∧ some k_ ≠ (.slice Ao64 t258.length co64 : Value).ownBlock ∧ some k_ ≠ (.slice Ao74 t260.length co74 : Value).ownBlock ∧ some k_ ≠ (.slice Ao84 t239.length co84 : Value).ownBlock) (.slice Ao59 t257.length co59) t257) := ⟨h5_⟩
                            have n6_ : Aside0 (Kd.R (Kd.int .i64) 3 w144 w.heap.size (fun k_ => some k_ ≠ (v266 : Value).ownBlock ∧ some k_ ≠ (v269 : Value).ownBlock ∧ some k_ ≠ (v273 : Value).ownBlock ∧ some k_ ≠ (v277 : Value).ownBlock ∧ some k_ ≠ (.slice Ao53 t222.length co53 : Value).ownBlock ∧ some k_ ≠ (.slice Ao59 t257.length co59 : Value).ownBlock ∧ some k_ ≠ (.slice Ao74 t260.length co74 : Value).ownBlock ∧ some k_ ≠ (.slice Ao84 t239.length co84 : Value).ownBlock) (.slice Ao64 t258.length co64) t258) := ⟨h6_⟩
                            have n7_ : Aside0 (Kd.R (Kd.int .i64) 3 w144 w.heap.size (fun k_ => some k_ ≠ (v266 : Value).ownBlock ∧ some k_ ≠ (v269 : Value).ownBlock ∧ some k_ ≠ (v273 : Value).ownBlock ∧ some k_ ≠ (v277 : Value).ownBlock ∧ some k_ ≠ (.slice Ao53 t222.length co53 : Value).ownBlock ∧ some k_ ≠ (.slice Ao59 t257.length co59 : Value).ownBlock ∧ some k_ ≠ (.slice Ao64 t258.length co64 : Value).ownBlock ∧ some k_ ≠ (.slice Ao84 t239.length co84 : Value).ownBlock) (.slice Ao74 t260.length co74) t260) := ⟨h7_⟩
                            have n8_ : Aside0 (Kd.R (Kd.int .i64) 3 w144 w.heap.size (fun k_ => some k_ ≠ (v266 : Value).ownBlock ∧ some k_ ≠ (v269 : Value).ownBlock ∧ some k_ ≠ (v273 : Value).ownBlock ∧ some k_ ≠ (v277 : Value).ownBlock ∧ some k_ ≠ (.slice Ao53 t222.length co53 : Value).ownBlock ∧ some k_ ≠ (.slice Ao59 t257.length co59 : Value).ownBlock ∧ some k_ ≠ (.slice Ao64 t258.length co64 : Value).ownBlock ∧ some k_ ≠ (.slice Ao74 t260.length co74 : Value).ownBlock) (.slice Ao84 t239.length co84) t263) := ⟨h8_⟩
                            have n9_ : Aside0 (w144.heap[gb207]? = some (.cells #[.slice A0_0 l0_0.length c0_0, .slice A0_1 l0_1.length c0_1] 36 (0, 0))) := ⟨h9_⟩
                            have n10_ : Aside0 (w144.heap[gb208]? = some (.cells #[.int .i64 a1_0, .slice A1_1 l1_1.length c1_1] 47 (0, 0))) := ⟨h10_⟩
                            have n11_ : Aside0 (w144.heap[gb225]? = some (.cells #[.int .i64 t221, .slice Ao53 t222.length co53] 50 (0, 0))) := ⟨h11_⟩
                            have n12_ : Aside0 (w144.heap[gb232]? = some (.cells #[.slice Ao59 t257.length co59, .slice Ao64 t258.length co64] 39 (0, 0))) := ⟨h12_⟩
                            have n13_ : Aside0 (w144.heap[gb237]? = some (.cells #[.int .i64 t233, .slice Ao74 t260.length co74] 50 (0, 0))) := ⟨h13_⟩
                            have n14_ : Aside0 (w144.heap[gb242]? = some (.cells #[.int .i64 t238, .slice Ao84 t239.length co84] 50 (0, 0))) := ⟨h14_⟩
                            have n15_ : Aside0 (w144.heap[gb279]? = some (.cells #[.int .i64 0, .slice none 0 0] 50 (0, 0))) := ⟨h15_⟩
                            have n16_ : Aside0 (w.heap.size ≤ gb279) := ⟨h16_⟩
                            have n17_ : Aside0 (w.heap.size ≤ gb279) := ⟨h17_⟩
                            have n18_ : Aside0 (gb207 ≠ gb279) := ⟨h18_⟩
                            have n19_ : Aside0 (gb279 ≠ gb207) := ⟨h19_⟩
                            have n20_ : Aside0 (gb208 ≠ gb279) := ⟨h20_⟩
                            have n21_ : Aside0 (gb279 ≠ gb208) := ⟨h21_⟩
                            have n22_ : Aside0 (gb225 ≠ gb279) := ⟨h22_⟩
                            have n23_ : Aside0 (gb279 ≠ gb225) := ⟨h23_⟩
                            have n24_ : Aside0 (gb232 ≠ gb279) := ⟨h24_⟩
                            have n25_ : Aside0 (gb279 ≠ gb232) := ⟨h25_⟩
                            have n26_ : Aside0 (gb237 ≠ gb279) := ⟨h26_⟩
                            have n27_ : Aside0 (gb279 ≠ gb237) := ⟨h27_⟩
                            have n28_ : Aside0 (gb242 ≠ gb279) := ⟨h28_⟩
                            have n29_ : Aside0 (gb279 ≠ gb242) := ⟨h29_⟩
                            have n30_ : Aside0 (Below w.heap.size w w144) := ⟨h30_⟩
                            clear HO_226001
                            clear HO_233000
                            clear HO_233001
                            clear HO_238001
                            clear HO_243001
                            clear BK207
                            clear BK208
                            clear BK225
                            clear BK232
                            clear BK237
                            clear BK242
                            clear HB
                            clear h0_ h1_ h2_ h3_ h4_ h5_ h6_ h7_ h8_ h9_ h10_ h11_ h12_ h13_ h14_ h15_ h16_ h17_ h18_ h19_ h20_ h21_ h22_ h23_ h24_ h25_ h26_ h27_ h28_ h29_ h30_
                            have HO267 := n0_
                            have HO270 := n1_
                            have HO274 := n2_
                            have HO278 := n3_
                            have HO_226001 := n4_
                            have HO_233000 := n5_
                            have HO_233001 := n6_
                            have HO_238001 := n7_
                            have HO_243001 := n8_
                            have BK207 := n9_
                            have BK208 := n10_
                            have BK225 := n11_
                            have BK232 := n12_
                            have BK237 := n13_
                            have BK242 := n14_
                            have BK279 := n15_
                            have GW279 := n16_
                            have GE279 := n17_
                            have NB207_279 := n18_
                            have NB279_207 := n19_
                            have NB208_279 := n20_
                            have NB279_208 := n21_
                            have NB225_279 := n22_
                            have NB279_225 := n23_
                            have NB232_279 := n24_
                            have NB279_232 := n25_
                            have NB237_279 := n26_
                            have NB279_237 := n27_
                            have NB242_279 := n28_
                            have NB279_242 := n29_
                            have HB := n30_
                            clear n0_ n1_ n2_ n3_ n4_ n5_ n6_ n7_ n8_ n9_ n10_ n11_ n12_ n13_ n14_ n15_ n16_ n17_ n18_ n19_ n20_ n21_ n22_ n23_ n24_ n25_ n26_ n27_ n28_ n29_ n30_
                            have hHeld : w144.cell? ⟨gb207, 0, none⟩ = some (.slice A0_0 l0_0.length c0_0) ∧ w144.cell? ⟨gb207, 1, none⟩ = some (.slice A0_1 l0_1.length c0_1) ∧ w144.cell? ⟨gb208, 0, none⟩ = some (.int .i64 a1_0) ∧ w144.cell? ⟨gb208, 1, none⟩ = some (.slice A1_1 l1_1.length c1_1) := hS_
                            obtain ⟨Ao146, co146, eo146⟩ := Kd.R_slice HO278.out
                            (first | subst eo146 | (injection eo146 with f1_ f2_ f3_; have f4_ := f1_.symm; have f5_ := f3_.symm; clear f1_ f2_ f3_; subst f4_; subst f5_))
                            refine norm_ (a' := ?_) ?_ ?_
                            rotate_left
                            · simp only [putAll, Act.put, List.setIfInBounds_toArray, List.set_cons_zero, List.set_cons_succ]
                              rfl
                            refine one_ (i := 6) (N := none) #[true, true, true, true, true, true, true] rfl rfl (by kernel_rfl) (by decide) (fun K hK => ?_)
                            have hs145 : w144.cell? ⟨gb279, 0, none⟩ = some (.int .i64 0) := (blk_cell BK279.out 0).trans rfl
                            have hfs145 := blk_frozen BK279.out 0
                            have hns145_0 := NB207_279.out
                            have hns145_1 := NB208_279.out
                            have hns145_2 := NB225_279.out
                            have hns145_3 := NB232_279.out
                            have hns145_4 := NB237_279.out
                            have hns145_5 := NB242_279.out
                            have hms145_0 := NB279_207.out
                            have hms145_1 := NB279_208.out
                            have hms145_2 := NB279_225.out
                            have hms145_3 := NB279_232.out
                            have hms145_4 := NB279_237.out
                            have hms145_5 := NB279_242.out
                            have hs147 : w144.cell? ⟨gb279, 1, none⟩ = some (.slice none 0 0) := (blk_cell BK279.out 1).trans rfl
                            have hfs147 := blk_frozen BK279.out 1
                            have hns147_0 := NB207_279.out
                            have hns147_1 := NB208_279.out
                            have hns147_2 := NB225_279.out
                            have hns147_3 := NB232_279.out
                            have hns147_4 := NB237_279.out
                            have hns147_5 := NB242_279.out
                            have hms147_0 := NB279_207.out
                            have hms147_1 := NB279_208.out
                            have hms147_2 := NB279_225.out
                            have hms147_3 := NB279_232.out
                            have hms147_4 := NB279_237.out
                            have hms147_5 := NB279_242.out
                            refine skip_ (w1 := ?_) (by rfl) rfl ?_ ?_
                            rotate_left
                            · go_simp
                              rfl
                            refine hK.out _ _ ⟨((cell_far (p := ⟨gb279, _, none⟩) NB207_279.out _).trans (((cell_far (p := ⟨gb279, _, none⟩) NB207_279.out _).trans (hHeld.1)))), ((cell_far (p := ⟨gb279, _, none⟩) NB207_279.out _).trans (((cell_far (p := ⟨gb279, _, none⟩) NB207_279.out _).trans (hHeld.2.1)))), ((cell_far (p := ⟨gb279, _, none⟩) NB208_279.out _).trans (((cell_far (p := ⟨gb279, _, none⟩) NB208_279.out _).trans (hHeld.2.2.1)))), ((cell_far (p := ⟨gb279, _, none⟩) NB208_279.out _).trans (((cell_far (p := ⟨gb279, _, none⟩) NB208_279.out _).trans (hHeld.2.2.2))))⟩ (fun hHeld => ?_)
                            clear hK K
                            refine done_ (by kernel_rfl) ?_
                            have hnb148 := NB279_207.out
                            have hnc148 := NB207_279.out
                            have hnb149 := NB279_208.out
                            have hnc149 := NB208_279.out
                            have hnb150 := NB279_225.out
                            have hnc150 := NB225_279.out
                            have hnb151 := NB279_232.out
                            have hnc151 := NB232_279.out
                            have hnb152 := NB279_237.out
                            have hnc152 := NB237_279.out
                            have hnb153 := NB279_242.out
                            have hnc153 := NB242_279.out
                            have hcz154_0 : w144.cell? ⟨gb279, 0, none⟩ = some (.int .i64 0) := (blk_cell BK279.out 0).trans rfl
                            have hcz154_1 : w144.cell? ⟨gb279, 1, none⟩ = some (.slice none 0 0) := (blk_cell BK279.out 1).trans rfl
                            have hfz154_0 := blk_frozen BK279.out 0
                            have hfz154_1 := blk_frozen BK279.out 1
                            have hnb155 := NB225_207.out
                            have hnc155 := NB207_225.out
                            have hnb156 := NB225_208.out
                            have hnc156 := NB208_225.out
                            have hnb157 := NB225_232.out
                            have hnc157 := NB232_225.out
                            have hnb158 := NB225_237.out
                            have hnc158 := NB237_225.out
                            have hcz159_0 : w144.cell? ⟨gb225, 0, none⟩ = some (.int .i64 t221) := (blk_cell BK225.out 0).trans rfl
                            have hcz159_1 : w144.cell? ⟨gb225, 1, none⟩ = some (.slice Ao53 t222.length co53) := (blk_cell BK225.out 1).trans rfl
                            have hfz159_0 := blk_frozen BK225.out 0
                            have hfz159_1 := blk_frozen BK225.out 1
                            try go_wp2_with (first | ((with_reducible refine gate_callee (f := 34) rfl ?_); refine zg (some 82) Try.func34 #[.agg #[.int .i64 t275, .slice Ao146 t276.length co146], .agg #[.int .i64 t221, .slice Ao53 t222.length co53]] ?_; (with_reducible refine (laws_eqFact.calls kj34 t275 _ _ t276 t221 _ _ t222 true _ ?side1 ?side2 ?side3 ?side4 A122.out).mono ?_); (case side1 => refine (Kd.R_reads' (e := 3) (base := w.heap.size) (ok := fun k_ => (some k_ ≠ (v266 : Value).ownBlock ∧ (some k_ ≠ (v269 : Value).ownBlock ∧ (some k_ ≠ (v273 : Value).ownBlock ∧ (some k_ ≠ (.slice Ao53 t222.length co53 : Value).ownBlock ∧ (some k_ ≠ (.slice Ao59 t257.length co59 : Value).ownBlock ∧ (some k_ ≠ (.slice Ao64 t258.length co64 : Value).ownBlock ∧ (some k_ ≠ (.slice Ao74 t260.length co74 : Value).ownBlock ∧ some k_ ≠ (.slice Ao84 t239.length co84 : Value).ownBlock)))))))) (n := t276.length) (c := co146) ?_).2.2; exact (zr (Kd.R_mono (Kd.R_far (p := ⟨gb279, 1, none⟩) (Kd.R_far (p := ⟨gb279, 0, none⟩) (Kd.R_types HO278.out BK279.out (by decide)) (fun _ hk => hk.2) (.int .i64 t275)) (fun _ hk => hk.2) (.slice Ao146 t276.length co146)) (fun _ h_ => h_.1)))); (case side2 => exact (Kd.R_reads' HO278.out).2.1); (case side3 => refine (Kd.R_reads' (e := 3) (base := w.heap.size) (ok := fun k_ => (some k_ ≠ (v266 : Value).ownBlock ∧ (some k_ ≠ (v269 : Value).ownBlock ∧ (some k_ ≠ (v273 : Value).ownBlock ∧ (some k_ ≠ (.slice Ao146 t276.length co146 : Value).ownBlock ∧ (some k_ ≠ (.slice Ao59 t257.length co59 : Value).ownBlock ∧ (some k_ ≠ (.slice Ao64 t258.length co64 : Value).ownBlock ∧ (some k_ ≠ (.slice Ao74 t260.length co74 : Value).ownBlock ∧ some k_ ≠ (.slice Ao84 t239.length co84 : Value).ownBlock)))))))) (n := t222.length) (c := co53) ?_).2.2; exact (zr (Kd.R_mono (Kd.R_far (p := ⟨gb279, 1, none⟩) (Kd.R_far (p := ⟨gb279, 0, none⟩) (Kd.R_types HO_226001.out BK279.out (by decide)) (fun _ hk => hk.2) (.int .i64 t275)) (fun _ hk => hk.2) (.slice Ao146 t276.length co146)) (fun _ h_ => h_.1)))); (case side4 => exact (Kd.R_reads' HO_226001.out).2.1); rintro e w160 ⟨rfl, hb⟩; refine ⟨_, rfl, ?_⟩; replace HO_226001 := zm (Kd.R_below (zr (Kd.R_mono (Kd.R_far (p := ⟨gb279, 1, none⟩) (Kd.R_far (p := ⟨gb279, 0, none⟩) (Kd.R_types HO_226001.out BK279.out (by decide)) (fun _ hk => hk.2) (.int .i64 t275)) (fun _ hk => hk.2) (.slice Ao146 t276.length co146)) (fun _ h_ => h_.1))) hb); replace HO_233000 := zm (Kd.R_below (zr (Kd.R_mono (Kd.R_far (p := ⟨gb279, 1, none⟩) (Kd.R_far (p := ⟨gb279, 0, none⟩) (Kd.R_types HO_233000.out BK279.out (by decide)) (fun _ hk => hk.2) (.int .i64 t275)) (fun _ hk => hk.2) (.slice Ao146 t276.length co146)) (fun _ h_ => h_.1))) hb); replace HO_233001 := zm (Kd.R_below (zr (Kd.R_mono (Kd.R_far (p := ⟨gb279, 1, none⟩) (Kd.R_far (p := ⟨gb279, 0, none⟩) (Kd.R_types HO_233001.out BK279.out (by decide)) (fun _ hk => hk.2) (.int .i64 t275)) (fun _ hk => hk.2) (.slice Ao146 t276.length co146)) (fun _ h_ => h_.1))) hb); replace HO_238001 := zm (Kd.R_below (zr (Kd.R_mono (Kd.R_far (p := ⟨gb279, 1, none⟩) (Kd.R_far (p := ⟨gb279, 0, none⟩) (Kd.R_types HO_238001.out BK279.out (by decide)) (fun _ hk => hk.2) (.int .i64 t275)) (fun _ hk => hk.2) (.slice Ao146 t276.length co146)) (fun _ h_ => h_.1))) hb); replace HO_243001 := zm (Kd.R_below (zr (Kd.R_mono (Kd.R_far (p := ⟨gb279, 1, none⟩) (Kd.R_far (p := ⟨gb279, 0, none⟩) (Kd.R_types HO_243001.out BK279.out (by decide)) (fun _ hk => hk.2) (.int .i64 t275)) (fun _ hk => hk.2) (.slice Ao146 t276.length co146)) (fun _ h_ => h_.1))) hb); replace HO267 := zm (Kd.R_below (zr (Kd.R_mono (Kd.R_far (p := ⟨gb279, 1, none⟩) (Kd.R_far (p := ⟨gb279, 0, none⟩) (Kd.R_types HO267.out BK279.out (by decide)) (fun _ hk => hk.2) (.int .i64 t275)) (fun _ hk => hk.2) (.slice Ao146 t276.length co146)) (fun _ h_ => h_.1))) hb); replace HO270 := zm (Kd.R_below (zr (Kd.R_mono (Kd.R_far (p := ⟨gb279, 1, none⟩) (Kd.R_far (p := ⟨gb279, 0, none⟩) (Kd.R_types HO270.out BK279.out (by decide)) (fun _ hk => hk.2) (.int .i64 t275)) (fun _ hk => hk.2) (.slice Ao146 t276.length co146)) (fun _ h_ => h_.1))) hb); replace HO274 := zm (Kd.R_below (zr (Kd.R_mono (Kd.R_far (p := ⟨gb279, 1, none⟩) (Kd.R_far (p := ⟨gb279, 0, none⟩) (Kd.R_types HO274.out BK279.out (by decide)) (fun _ hk => hk.2) (.int .i64 t275)) (fun _ hk => hk.2) (.slice Ao146 t276.length co146)) (fun _ h_ => h_.1))) hb); replace HO278 := zm (Kd.R_below (zr (Kd.R_mono (Kd.R_far (p := ⟨gb279, 1, none⟩) (Kd.R_far (p := ⟨gb279, 0, none⟩) (Kd.R_types HO278.out BK279.out (by decide)) (fun _ hk => hk.2) (.int .i64 t275)) (fun _ hk => hk.2) (.slice Ao146 t276.length co146)) (fun _ h_ => h_.1))) hb); replace BK207 := zm (blk_below (g := gb207) (o := .cells #[.slice A0_0 l0_0.length c0_0, .slice A0_1 l0_1.length c0_1] 36 (0, 0)) (by (with_reducible repeat (first | refine blk_drewN ?_ _ | refine blk_drew ?_ | refine blk_alloc ?_ _)); refine blk_far ?_ NB207_279.out _; (with_reducible repeat (first | refine blk_drewN ?_ _ | refine blk_drew ?_ | refine blk_alloc ?_ _)); refine blk_far ?_ NB207_279.out _; (with_reducible repeat (first | refine blk_drewN ?_ _ | refine blk_drew ?_ | refine blk_alloc ?_ _)); exact BK207.out) hb); replace BK208 := zm (blk_below (g := gb208) (o := .cells #[.int .i64 a1_0, .slice A1_1 l1_1.length c1_1] 47 (0, 0)) (by (with_reducible repeat (first | refine blk_drewN ?_ _ | refine blk_drew ?_ | refine blk_alloc ?_ _)); refine blk_far ?_ NB208_279.out _; (with_reducible repeat (first | refine blk_drewN ?_ _ | refine blk_drew ?_ | refine blk_alloc ?_ _)); refine blk_far ?_ NB208_279.out _; (with_reducible repeat (first | refine blk_drewN ?_ _ | refine blk_drew ?_ | refine blk_alloc ?_ _)); exact BK208.out) hb); replace BK225 := zm (blk_below (g := gb225) (o := .cells #[.int .i64 t221, .slice Ao53 t222.length co53] 50 (0, 0)) (by (with_reducible repeat (first | refine blk_drewN ?_ _ | refine blk_drew ?_ | refine blk_alloc ?_ _)); refine blk_far ?_ NB225_279.out _; (with_reducible repeat (first | refine blk_drewN ?_ _ | refine blk_drew ?_ | refine blk_alloc ?_ _)); refine blk_far ?_ NB225_279.out _; (with_reducible repeat (first | refine blk_drewN ?_ _ | refine blk_drew ?_ | refine blk_alloc ?_ _)); exact BK225.out) hb); replace BK232 := zm (blk_below (g := gb232) (o := .cells #[.slice Ao59 t257.length co59, .slice Ao64 t258.length co64] 39 (0, 0)) (by (with_reducible repeat (first | refine blk_drewN ?_ _ | refine blk_drew ?_ | refine blk_alloc ?_ _)); refine blk_far ?_ NB232_279.out _; (with_reducible repeat (first | refine blk_drewN ?_ _ | refine blk_drew ?_ | refine blk_alloc ?_ _)); refine blk_far ?_ NB232_279.out _; (with_reducible repeat (first | refine blk_drewN ?_ _ | refine blk_drew ?_ | refine blk_alloc ?_ _)); exact BK232.out) hb); replace BK237 := zm (blk_below (g := gb237) (o := .cells #[.int .i64 t233, .slice Ao74 t260.length co74] 50 (0, 0)) (by (with_reducible repeat (first | refine blk_drewN ?_ _ | refine blk_drew ?_ | refine blk_alloc ?_ _)); refine blk_far ?_ NB237_279.out _; (with_reducible repeat (first | refine blk_drewN ?_ _ | refine blk_drew ?_ | refine blk_alloc ?_ _)); refine blk_far ?_ NB237_279.out _; (with_reducible repeat (first | refine blk_drewN ?_ _ | refine blk_drew ?_ | refine blk_alloc ?_ _)); exact BK237.out) hb); replace BK242 := zm (blk_below (g := gb242) (o := .cells #[.int .i64 t238, .slice Ao84 t239.length co84] 50 (0, 0)) (by (with_reducible repeat (first | refine blk_drewN ?_ _ | refine blk_drew ?_ | refine blk_alloc ?_ _)); refine blk_far ?_ NB242_279.out _; (with_reducible repeat (first | refine blk_drewN ?_ _ | refine blk_drew ?_ | refine blk_alloc ?_ _)); refine blk_far ?_ NB242_279.out _; (with_reducible repeat (first | refine blk_drewN ?_ _ | refine blk_drew ?_ | refine blk_alloc ?_ _)); exact BK242.out) hb); replace BK279 := zm (blk_below (g := gb279) (o := .cells #[.int .i64 t275, .slice Ao146 t276.length co146] 50 (0, 0)) (by (with_reducible repeat (first | refine blk_drewN ?_ _ | refine blk_drew ?_ | refine blk_alloc ?_ _)); refine blk_put (cs := #[.int .i64 t275, .slice none 0 0]) ?_ 1 _ rfl; (with_reducible repeat (first | refine blk_drewN ?_ _ | refine blk_drew ?_ | refine blk_alloc ?_ _)); refine blk_put (cs := #[.int .i64 0, .slice none 0 0]) ?_ 0 _ rfl; (with_reducible repeat (first | refine blk_drewN ?_ _ | refine blk_drew ?_ | refine blk_alloc ?_ _)); exact BK279.out) hb); replace HB := zm (below_step zl hb); (try clear hb); (try clear hb2); (try clear hk); (try clear hi); have hcz161_0 : w160.cell? ⟨gb242, 0, none⟩ = some (.int .i64 t238) := (blk_cell BK242.out 0).trans rfl; have hcz161_1 : w160.cell? ⟨gb242, 1, none⟩ = some (.slice Ao84 t239.length co84) := (blk_cell BK242.out 1).trans rfl; have hfz161_0 := blk_frozen BK242.out 0; have hfz161_1 := blk_frozen BK242.out 1) | ((with_reducible refine gate_callee (f := 41) rfl ?_); refine goesL_ (some 86) rfl rfl Try.func41 (by kernel_rfl) rfl #[.agg #[.int .i64 t238, .slice Ao84 t263.length co84], .int .i64 1] rfl (by (try simp only [List.map_toArray, List.map_cons, List.map_nil]); first | done | (rw [show t263.length = t239.length from (Kd.R_reads' HO_243001.out).1.symm] <;> rfl) | rfl | (simp only [List.length_drop, List.length_take]; rfl)) ?_; (with_reducible refine (laws_heldFact.calls kj34 t238 _ _ t263 1 t281 _ ?side1 ?side2 A124.out).mono ?_); (case side1 => repeat (first | exact (Kd.R_reads' HO_243001.out).2.2 | (with_reducible refine Kd.C_alloc ?_ _) | (with_reducible refine Kd.C_drewN ?_ _) | (with_reducible refine Kd.C_drew ?_))); (case side2 => rw [show t263.length = t239.length from (Kd.R_reads' HO_243001.out).1.symm]; exact (Kd.R_reads' HO_243001.out).2.1); rintro e w162 ⟨rfl, hb⟩; refine ⟨_, rfl, ?_⟩; replace HO_226001 := zm (Kd.R_below (zr HO_226001.out) hb); replace HO_233000 := zm (Kd.R_below (zr HO_233000.out) hb); replace HO_233001 := zm (Kd.R_below (zr HO_233001.out) hb); replace HO_238001 := zm (Kd.R_below (zr HO_238001.out) hb); replace HO_243001 := zm (Kd.R_below (zr HO_243001.out) hb); replace HO267 := zm (Kd.R_below (zr HO267.out) hb); replace HO270 := zm (Kd.R_below (zr HO270.out) hb); replace HO274 := zm (Kd.R_below (zr HO274.out) hb); replace HO278 := zm (Kd.R_below (zr HO278.out) hb); replace BK207 := zm (blk_below (zb BK207.out) hb); replace BK208 := zm (blk_below (zb BK208.out) hb); replace BK225 := zm (blk_below (zb BK225.out) hb); replace BK232 := zm (blk_below (zb BK232.out) hb); replace BK237 := zm (blk_below (zb BK237.out) hb); replace BK242 := zm (blk_below (zb BK242.out) hb); replace BK279 := zm (blk_below (zb BK279.out) hb); replace HB := zm (below_step zl hb); (try clear hb); (try clear hb2); (try clear hk); (try clear hi)))
                            go_ret
                            exact ⟨by first | rfl | (simp [errW_none, errW_some] <;> rfl) | (simp [*, errW_none, errW_some] <;> rfl), by repeat (first | (with_reducible first | exact HB.out | apply below_alloc | apply pw_below_drewN | apply below_drew1 | refine below_set ?_ GE207.out | refine below_set ?_ GE208.out | refine below_set ?_ GE225.out | refine below_set ?_ GE232.out | refine below_set ?_ GE237.out | refine below_set ?_ GE242.out | refine below_set ?_ GE279.out) | exact HB.out)⟩
                          · rw [if_neg c126] at H
                            have c126b0 : (t281 == t262) = false := beq_eq_false_iff_ne.mpr c126
                            have c126b1 : (t281 != t262) = true := bne_iff_ne.mpr c126
                            exact absurd H (by simp)
                      · replace c123 := Bool.eq_false_iff.mpr c123
                        subst c123
                        have H1 : (some false) = some true := by first | with_reducible rfl | (rw [if_neg (show ¬ (false = true) by decide)] at H; exact H)
                        clear H
                        have H := H1
                        clear H1
                        exact absurd H (by simp)
                    · rw [if_neg c118] at H
                      have c118b0 : (t264 == t262) = false := beq_eq_false_iff_ne.mpr c118
                      have c118b1 : (t264 != t262) = true := bne_iff_ne.mpr c118
                      exact absurd H (by simp)
          · replace c32 := Bool.eq_false_iff.mpr c32
            subst c32
            have H1 : (some false) = some true := by first | with_reducible rfl | (rw [if_neg (show ¬ (false = true) by decide)] at H; exact H)
            clear H
            have H := H1
            clear H1
            exact absurd H (by simp)
        · replace c29 := Bool.eq_false_iff.mpr c29
          subst c29
          have H1 : (some false) = some true := by first | with_reducible rfl | (rw [if_neg (show ¬ (false = true) by decide)] at H; exact H)
          clear H
          have H := H1
          clear H1
          exact absurd H (by simp)
      · replace c26 := Bool.eq_false_iff.mpr c26
        subst c26
        have H1 : (some false) = some true := by first | with_reducible rfl | (rw [if_neg (show ¬ (false = true) by decide)] at H; exact H)
        clear H
        have H := H1
        clear H1
        exact absurd H (by simp)

end Go.Proofs.Ytaimpokajhkgnaa.PFnExactApplyToFact
