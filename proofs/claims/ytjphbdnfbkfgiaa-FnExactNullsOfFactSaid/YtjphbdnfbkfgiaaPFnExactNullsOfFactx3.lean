-- Written by a program of this session: the kit's printer, turned by wip/mkprint.py.
import Derived.Test.YtjphbdnfbkfgiaaPFnExactNullsOfFactx0
import Derived.Test.YtjphbdnfbkfgiaaPFnExactNullsOfFactx1
import Derived.Test.YtjphbdnfbkfgiaaPFnExactNullsOfFactx2
namespace Go.Proofs.Ytjphbdnfbkfgiaa.PFnExactNullsOfFact
open Go.RowKit Go.Proofs.YtjphbdnfbkfgiaaW.PrintWords Go.Proofs.YtjphbdnfbkfgiaaW.PrintLast Go.Proofs.YtjphbdnfbkfgiaaW.PrintMore
attribute [local go_sem] max2_int min2_int max_two min_two max_three min_three max_four min_four   -- for this text's walks alone
set_option linter.unusedVariables false
set_option linter.unusedSimpArgs false

/-! ### laws_FnExactNullsOfFact: function 5 -/
def laws_FnExactNullsOfFact.j0 : Nat → List Int → List Int → Bool → Int → List Int → Option (Bool)
  | 0, _, _, _, _, _ => none
  | k + 1, x4, x6, x42, x202000, x202001 => if x42 = true then (some false) else ((laws_markIntS.f k x6 1).bind fun bt227 => ((laws_heldIntS.f k bt227.2 1).bind fun t229 => (if t229 < 0 then (some false) else (if t229 = bt227.1 then ((laws_toFact.f k x202000 x202001).bind fun bt230 => ((impl_NullsOfFact.f k bt230.1 bt230.2).bind fun t234 => ((laws_eqIntS.f k t234 x4).bind fun t237 => (if t237 = true then ((laws_heldIntS.f k bt227.2 1).bind fun t238 => (if t238 < 0 then (some false) else (if t238 = bt227.1 then (some true) else (some false)))) else (some false))))) else (some false)))))
def laws_FnExactNullsOfFact.f (k : Nat) (a0_0 : Int) (l0_1 : List Int) : Option (Bool) := (laws_szFact.f a0_0 l0_1 1048576).bind fun t202 => (if t202 < 0 then (some true) else ((laws_toFact.f k a0_0 l0_1).bind fun bt203 => ((spec_NullsOfFact.f k bt203.1 bt203.2).bind fun t207 => ((laws_toFact.f k a0_0 l0_1).bind fun bt210 => ((impl_NullsOfFact.f k bt210.1 bt210.2).bind fun t215 => ((laws_eqIntS.f k t215 t207).bind fun t218 => (if t218 = true then ((laws_toFact.f k a0_0 l0_1).bind fun bt219 => ((laws_eqFact.f k bt210.1 bt210.2 bt219.1 bt219.2).bind fun t223 => (if t223 = true then ((laws_markFact.f k bt210.1 bt210.2 1).bind fun bt224 => (if bt224.1 < 0 then (laws_FnExactNullsOfFact.j0 k t207 t215 true a0_0 l0_1) else ((laws_eqIntS.f k t215 t207).bind fun t226 => (laws_FnExactNullsOfFact.j0 k t207 t215 (!t226) a0_0 l0_1)))) else (some false)))) else (some false))))))))
theorem laws_FnExactNullsOfFact.mono_l : ∀ k, (∀ y0 y1 y2 y3 y4, LeO (laws_FnExactNullsOfFact.j0 k y0 y1 y2 y3 y4) (laws_FnExactNullsOfFact.j0 (k + 1) y0 y1 y2 y3 y4))
  | 0 => fun _ _ _ _ _ r h => by simp [laws_FnExactNullsOfFact.j0] at h
  | k + 1 => by
    have ih0 := laws_FnExactNullsOfFact.mono_l k
    · intro y0 y1 y2 y3 y4
      unfold laws_FnExactNullsOfFact.j0
      repeat' first
      | (with_reducible exact ih0 _ _ _ _ _)
      | (with_reducible exact impl_NullsOfFact.mono _ _ _)
      | (with_reducible exact laws_eqFact.mono _ _ _ _ _)
      | (with_reducible exact laws_eqIntS.mono _ _ _)
      | (with_reducible exact laws_heldIntS.mono _ _ _)
      | (with_reducible exact laws_markFact.mono _ _ _ _)
      | (with_reducible exact laws_markIntS.mono _ _ _)
      | (with_reducible exact laws_toFact.mono _ _ _)
      | (with_reducible exact spec_NullsOfFact.mono _ _ _)
      | (with_reducible exact LeO.refl _)
      | (with_reducible exact LeO.none _)
      | (with_reducible refine LeO.ite ?_ ?_)
      | (with_reducible refine LeO.bind ?_ (fun _ => ?_))
      | exact ih0 _ _ _ _ _
      | exact impl_NullsOfFact.mono _ _ _
      | exact laws_eqFact.mono _ _ _ _ _
      | exact laws_eqIntS.mono _ _ _
      | exact laws_heldIntS.mono _ _ _
      | exact laws_markFact.mono _ _ _ _
      | exact laws_markIntS.mono _ _ _
      | exact laws_toFact.mono _ _ _
      | exact spec_NullsOfFact.mono _ _ _
      | exact LeO.none _
      | refine LeO.ite ?_ ?_
      | refine LeO.bind ?_ (fun _ => ?_)
theorem laws_FnExactNullsOfFact.mono : ∀ a0 a1 k, LeO (laws_FnExactNullsOfFact.f k a0 a1) (laws_FnExactNullsOfFact.f (k + 1) a0 a1) := by
  intro a0 a1 k
  have ih0 := laws_FnExactNullsOfFact.mono_l k
  unfold laws_FnExactNullsOfFact.f
  repeat' first
      | (with_reducible exact ih0 _ _ _ _ _)
      | (with_reducible exact impl_NullsOfFact.mono _ _ _)
      | (with_reducible exact laws_eqFact.mono _ _ _ _ _)
      | (with_reducible exact laws_eqIntS.mono _ _ _)
      | (with_reducible exact laws_heldIntS.mono _ _ _)
      | (with_reducible exact laws_markFact.mono _ _ _ _)
      | (with_reducible exact laws_markIntS.mono _ _ _)
      | (with_reducible exact laws_toFact.mono _ _ _)
      | (with_reducible exact spec_NullsOfFact.mono _ _ _)
      | (with_reducible exact LeO.refl _)
      | (with_reducible exact LeO.none _)
      | (with_reducible refine LeO.ite ?_ ?_)
      | (with_reducible refine LeO.bind ?_ (fun _ => ?_))
      | exact ih0 _ _ _ _ _
      | exact impl_NullsOfFact.mono _ _ _
      | exact laws_eqFact.mono _ _ _ _ _
      | exact laws_eqIntS.mono _ _ _
      | exact laws_heldIntS.mono _ _ _
      | exact laws_markFact.mono _ _ _ _
      | exact laws_markIntS.mono _ _ _
      | exact laws_toFact.mono _ _ _
      | exact spec_NullsOfFact.mono _ _ _
      | exact LeO.none _
      | refine LeO.ite ?_ ?_
      | refine LeO.bind ?_ (fun _ => ?_)
set_option maxHeartbeats 8000000 in
set_option maxRecDepth 100000 in
theorem laws_FnExactNullsOfFact.calls (k : Nat) (a0_0 : Int) (A0_1 : Option Addr) (c0_1 : Nat) (l0_1 : List Int) (w : World) (hr0_1 : Kd.C (Kd.int .i64) w A0_1 l0_1.length l0_1) (hc0_1 : l0_1.length ≤ c0_1) (h : laws_FnExactNullsOfFact.f k a0_0 l0_1 = some true) :
    Calls Try.prog 5 #[.agg #[.int .i64 a0_0, .slice A0_1 l0_1.length c0_1]] w fun e w' => e = .returned (.bool true) ∧ Below w.heap.size w w' := by
  have hu36 := Try.underlying36
  have hu39 := Try.underlying39
  have HR0_1 := Aside0.mk hr0_1
  have HC0_1 := Aside0.mk hc0_1
  clear hr0_1 hc0_1
  have HB := Aside0.mk (Below.refl w.heap.size w)
  have H : ((laws_szFact.f a0_0 l0_1 1048576).bind fun t202 => (if t202 < 0 then (some true) else ((laws_toFact.f k a0_0 l0_1).bind fun bt203 => ((spec_NullsOfFact.f k bt203.1 bt203.2).bind fun t207 => ((laws_toFact.f k a0_0 l0_1).bind fun bt210 => ((impl_NullsOfFact.f k bt210.1 bt210.2).bind fun t215 => ((laws_eqIntS.f k t215 t207).bind fun t218 => (if t218 = true then ((laws_toFact.f k a0_0 l0_1).bind fun bt219 => ((laws_eqFact.f k bt210.1 bt210.2 bt219.1 bt219.2).bind fun t223 => (if t223 = true then ((laws_markFact.f k bt210.1 bt210.2 1).bind fun bt224 => (if bt224.1 < 0 then (laws_FnExactNullsOfFact.j0 k t207 t215 true a0_0 l0_1) else ((laws_eqIntS.f k t215 t207).bind fun t226 => (laws_FnExactNullsOfFact.j0 k t207 t215 (!t226) a0_0 l0_1)))) else (some false)))) else (some false))))))))) = some true := h
  clear h
  replace H := Option.bind_eq_some_iff.mp H
  obtain ⟨t202, A20, H⟩ := H
  replace H : (if t202 < 0 then (some true) else ((laws_toFact.f k a0_0 l0_1).bind fun bt203 => ((spec_NullsOfFact.f k bt203.1 bt203.2).bind fun t207 => ((laws_toFact.f k a0_0 l0_1).bind fun bt210 => ((impl_NullsOfFact.f k bt210.1 bt210.2).bind fun t215 => ((laws_eqIntS.f k t215 t207).bind fun t218 => (if t218 = true then ((laws_toFact.f k a0_0 l0_1).bind fun bt219 => ((laws_eqFact.f k bt210.1 bt210.2 bt219.1 bt219.2).bind fun t223 => (if t223 = true then ((laws_markFact.f k bt210.1 bt210.2 1).bind fun bt224 => (if bt224.1 < 0 then (laws_FnExactNullsOfFact.j0 k t207 t215 true a0_0 l0_1) else ((laws_eqIntS.f k t215 t207).bind fun t226 => (laws_FnExactNullsOfFact.j0 k t207 t215 (!t226) a0_0 l0_1)))) else (some false)))) else (some false)))))))) = some true := H
  have A2 := Aside0.mk A20
  clear A20
  by_cases c3 : t202 < 0
  · rw [if_pos c3] at H
    have c3b0 : decide (t202 < 0) = true := decide_eq_true c3
    clear c3
    clear H
    go_enter Try.func5, Try.ntmps5
    go_wp2_with (first | ((with_reducible refine gate_dst (N := 1) rfl ?_); refine box_event ?hg (N := 1) ?hd (cs := #[.int .i64 a0_0, .slice A0_1 l0_1.length c0_1]) (t := 36) ?hr ?_; (case hd => rfl); (case hg => rfl); (case hr => first | (go_simp; done) | (go_simp; rfl)); intro gb201 hg w4 hbox hb; have BK201 := zm (hbox); have GW201 := zm ((by rw [hg]; exact (below_size zl) : w.heap.size ≤ gb201)); have GE201 := zm ((by rw [hg]; exact (below_size zl) : w.heap.size ≤ gb201)); replace HB := zm (below_step zl hb); clear hb hbox hg; have hcz5_0 : w4.cell? ⟨gb201, 0, none⟩ = some (.int .i64 a0_0) := (blk_cell BK201.out 0).trans rfl; have hcz5_1 : w4.cell? ⟨gb201, 1, none⟩ = some (.slice A0_1 l0_1.length c0_1) := (blk_cell BK201.out 1).trans rfl; have hfz5_0 := blk_frozen BK201.out 0; have hfz5_1 := blk_frozen BK201.out 1) | ((with_reducible refine gate_callee (f := 14) rfl ?_); refine zg (some 13) Try.func14 #[.agg #[.int .i64 a0_0, .slice A0_1 l0_1.length c0_1], .int .i64 1048576] ?_; (with_reducible refine (laws_szFact.calls a0_0 _ _ l0_1 1048576 t202 _ ?side1 ?side2 A2.out).mono ?_); (case side1 => exact zc HR0_1.out); (case side2 => exact HC0_1.out); rintro e w6 ⟨rfl, hb⟩; refine ⟨_, rfl, ?_⟩; replace BK201 := zm (blk_below (zb BK201.out) hb); replace HB := zm (below_step zl hb); (try clear hb); (try clear hb2); (try clear hk); (try clear hi)))
    go_ret
    exact ⟨by first | rfl | (simp [errW_none, errW_some] <;> rfl) | (simp [*, errW_none, errW_some] <;> rfl), by repeat (first | (with_reducible first | exact HB.out | apply below_alloc | apply pw_below_drewN | apply below_drew1 | refine below_set ?_ GE201.out) | exact HB.out)⟩
  · rw [if_neg c3] at H
    have c3b0 : decide (t202 < 0) = false := decide_eq_false c3
    clear c3
    replace H := Option.bind_eq_some_iff.mp H
    obtain ⟨⟨t203, t204⟩, A70, H⟩ := H
    replace H : ((spec_NullsOfFact.f k t203 t204).bind fun t207 => ((laws_toFact.f k a0_0 l0_1).bind fun bt210 => ((impl_NullsOfFact.f k bt210.1 bt210.2).bind fun t215 => ((laws_eqIntS.f k t215 t207).bind fun t218 => (if t218 = true then ((laws_toFact.f k a0_0 l0_1).bind fun bt219 => ((laws_eqFact.f k bt210.1 bt210.2 bt219.1 bt219.2).bind fun t223 => (if t223 = true then ((laws_markFact.f k bt210.1 bt210.2 1).bind fun bt224 => (if bt224.1 < 0 then (laws_FnExactNullsOfFact.j0 k t207 t215 true a0_0 l0_1) else ((laws_eqIntS.f k t215 t207).bind fun t226 => (laws_FnExactNullsOfFact.j0 k t207 t215 (!t226) a0_0 l0_1)))) else (some false)))) else (some false)))))) = some true := H
    have A7 := Aside0.mk A70
    clear A70
    replace H := Option.bind_eq_some_iff.mp H
    obtain ⟨t207, A80, H⟩ := H
    replace H : ((laws_toFact.f k a0_0 l0_1).bind fun bt210 => ((impl_NullsOfFact.f k bt210.1 bt210.2).bind fun t215 => ((laws_eqIntS.f k t215 t207).bind fun t218 => (if t218 = true then ((laws_toFact.f k a0_0 l0_1).bind fun bt219 => ((laws_eqFact.f k bt210.1 bt210.2 bt219.1 bt219.2).bind fun t223 => (if t223 = true then ((laws_markFact.f k bt210.1 bt210.2 1).bind fun bt224 => (if bt224.1 < 0 then (laws_FnExactNullsOfFact.j0 k t207 t215 true a0_0 l0_1) else ((laws_eqIntS.f k t215 t207).bind fun t226 => (laws_FnExactNullsOfFact.j0 k t207 t215 (!t226) a0_0 l0_1)))) else (some false)))) else (some false))))) = some true := H
    have A8 := Aside0.mk A80
    clear A80
    replace H := Option.bind_eq_some_iff.mp H
    obtain ⟨⟨t210, t211⟩, A90, H⟩ := H
    replace H : ((impl_NullsOfFact.f k t210 t211).bind fun t215 => ((laws_eqIntS.f k t215 t207).bind fun t218 => (if t218 = true then ((laws_toFact.f k a0_0 l0_1).bind fun bt219 => ((laws_eqFact.f k t210 t211 bt219.1 bt219.2).bind fun t223 => (if t223 = true then ((laws_markFact.f k t210 t211 1).bind fun bt224 => (if bt224.1 < 0 then (laws_FnExactNullsOfFact.j0 k t207 t215 true a0_0 l0_1) else ((laws_eqIntS.f k t215 t207).bind fun t226 => (laws_FnExactNullsOfFact.j0 k t207 t215 (!t226) a0_0 l0_1)))) else (some false)))) else (some false)))) = some true := H
    have A9 := Aside0.mk A90
    clear A90
    replace H := Option.bind_eq_some_iff.mp H
    obtain ⟨t215, A100, H⟩ := H
    replace H : ((laws_eqIntS.f k t215 t207).bind fun t218 => (if t218 = true then ((laws_toFact.f k a0_0 l0_1).bind fun bt219 => ((laws_eqFact.f k t210 t211 bt219.1 bt219.2).bind fun t223 => (if t223 = true then ((laws_markFact.f k t210 t211 1).bind fun bt224 => (if bt224.1 < 0 then (laws_FnExactNullsOfFact.j0 k t207 t215 true a0_0 l0_1) else ((laws_eqIntS.f k t215 t207).bind fun t226 => (laws_FnExactNullsOfFact.j0 k t207 t215 (!t226) a0_0 l0_1)))) else (some false)))) else (some false))) = some true := H
    have A10 := Aside0.mk A100
    clear A100
    replace H := Option.bind_eq_some_iff.mp H
    obtain ⟨t218, A110, H⟩ := H
    replace H : (if t218 = true then ((laws_toFact.f k a0_0 l0_1).bind fun bt219 => ((laws_eqFact.f k t210 t211 bt219.1 bt219.2).bind fun t223 => (if t223 = true then ((laws_markFact.f k t210 t211 1).bind fun bt224 => (if bt224.1 < 0 then (laws_FnExactNullsOfFact.j0 k t207 t215 true a0_0 l0_1) else ((laws_eqIntS.f k t215 t207).bind fun t226 => (laws_FnExactNullsOfFact.j0 k t207 t215 (!t226) a0_0 l0_1)))) else (some false)))) else (some false)) = some true := H
    have A11 := Aside0.mk A110
    clear A110
    by_cases c12 : t218 = true
    · subst c12
      have H1 : ((laws_toFact.f k a0_0 l0_1).bind fun bt219 => ((laws_eqFact.f k t210 t211 bt219.1 bt219.2).bind fun t223 => (if t223 = true then ((laws_markFact.f k t210 t211 1).bind fun bt224 => (if bt224.1 < 0 then (laws_FnExactNullsOfFact.j0 k t207 t215 true a0_0 l0_1) else ((laws_eqIntS.f k t215 t207).bind fun t226 => (laws_FnExactNullsOfFact.j0 k t207 t215 (!t226) a0_0 l0_1)))) else (some false)))) = some true := by first | with_reducible rfl | (rw [if_pos rfl] at H; exact H)
      clear H
      have H := H1
      clear H1
      replace H := Option.bind_eq_some_iff.mp H
      obtain ⟨⟨t219, t220⟩, A130, H⟩ := H
      replace H : ((laws_eqFact.f k t210 t211 t219 t220).bind fun t223 => (if t223 = true then ((laws_markFact.f k t210 t211 1).bind fun bt224 => (if bt224.1 < 0 then (laws_FnExactNullsOfFact.j0 k t207 t215 true a0_0 l0_1) else ((laws_eqIntS.f k t215 t207).bind fun t226 => (laws_FnExactNullsOfFact.j0 k t207 t215 (!t226) a0_0 l0_1)))) else (some false))) = some true := H
      have A13 := Aside0.mk A130
      clear A130
      replace H := Option.bind_eq_some_iff.mp H
      obtain ⟨t223, A140, H⟩ := H
      replace H : (if t223 = true then ((laws_markFact.f k t210 t211 1).bind fun bt224 => (if bt224.1 < 0 then (laws_FnExactNullsOfFact.j0 k t207 t215 true a0_0 l0_1) else ((laws_eqIntS.f k t215 t207).bind fun t226 => (laws_FnExactNullsOfFact.j0 k t207 t215 (!t226) a0_0 l0_1)))) else (some false)) = some true := H
      have A14 := Aside0.mk A140
      clear A140
      by_cases c15 : t223 = true
      · subst c15
        have H1 : ((laws_markFact.f k t210 t211 1).bind fun bt224 => (if bt224.1 < 0 then (laws_FnExactNullsOfFact.j0 k t207 t215 true a0_0 l0_1) else ((laws_eqIntS.f k t215 t207).bind fun t226 => (laws_FnExactNullsOfFact.j0 k t207 t215 (!t226) a0_0 l0_1)))) = some true := by first | with_reducible rfl | (rw [if_pos rfl] at H; exact H)
        clear H
        have H := H1
        clear H1
        replace H := Option.bind_eq_some_iff.mp H
        obtain ⟨⟨t224, t225⟩, A160, H⟩ := H
        replace H : (if t224 < 0 then (laws_FnExactNullsOfFact.j0 k t207 t215 true a0_0 l0_1) else ((laws_eqIntS.f k t215 t207).bind fun t226 => (laws_FnExactNullsOfFact.j0 k t207 t215 (!t226) a0_0 l0_1))) = some true := H
        have A16 := Aside0.mk A160
        clear A160
        have HC17 := Aside0.mk H
        clear H
        go_enter Try.func5, Try.ntmps5
        try go_wp2_with (first | ((with_reducible refine gate_dst (N := 1) rfl ?_); refine box_event ?hg (N := 1) ?hd (cs := #[.int .i64 a0_0, .slice A0_1 l0_1.length c0_1]) (t := 36) ?hr ?_; (case hd => rfl); (case hg => rfl); (case hr => first | (go_simp; done) | (go_simp; rfl)); intro gb201 hg w18 hbox hb; have BK201 := zm (hbox); have GW201 := zm ((by rw [hg]; exact (below_size zl) : w.heap.size ≤ gb201)); have GE201 := zm ((by rw [hg]; exact (below_size zl) : w.heap.size ≤ gb201)); replace HB := zm (below_step zl hb); clear hb hbox hg; have hcz19_0 : w18.cell? ⟨gb201, 0, none⟩ = some (.int .i64 a0_0) := (blk_cell BK201.out 0).trans rfl; have hcz19_1 : w18.cell? ⟨gb201, 1, none⟩ = some (.slice A0_1 l0_1.length c0_1) := (blk_cell BK201.out 1).trans rfl; have hfz19_0 := blk_frozen BK201.out 0; have hfz19_1 := blk_frozen BK201.out 1) | ((with_reducible refine gate_callee (f := 14) rfl ?_); refine zg (some 13) Try.func14 #[.agg #[.int .i64 a0_0, .slice A0_1 l0_1.length c0_1], .int .i64 1048576] ?_; (with_reducible refine (laws_szFact.calls a0_0 _ _ l0_1 1048576 t202 _ ?side1 ?side2 A2.out).mono ?_); (case side1 => exact zc HR0_1.out); (case side2 => exact HC0_1.out); rintro e w20 ⟨rfl, hb⟩; refine ⟨_, rfl, ?_⟩; replace BK201 := zm (blk_below (zb BK201.out) hb); replace HB := zm (below_step zl hb); (try clear hb); (try clear hb2); (try clear hk); (try clear hi); have hcz21_0 : w20.cell? ⟨gb201, 0, none⟩ = some (.int .i64 a0_0) := (blk_cell BK201.out 0).trans rfl; have hcz21_1 : w20.cell? ⟨gb201, 1, none⟩ = some (.slice A0_1 l0_1.length c0_1) := (blk_cell BK201.out 1).trans rfl; have hfz21_0 := blk_frozen BK201.out 0; have hfz21_1 := blk_frozen BK201.out 1) | ((with_reducible refine gate_callee (f := 16) rfl ?_); refine zg (some 17) Try.func16 #[.agg #[.int .i64 a0_0, .slice A0_1 l0_1.length c0_1]] ?_; (with_reducible refine (laws_toFact.calls k a0_0 _ _ l0_1 t203 t204 _ ?side1 ?side2 A7.out).mono ?_); (case side1 => exact zc HR0_1.out); (case side2 => exact HC0_1.out); rintro e w22 ⟨v205, rfl, ho0, hb⟩; refine ⟨_, rfl, ?_⟩; have HO206 := zm (Kd.R_lower ho0 (below_size zl)); replace BK201 := zm (blk_below (zb BK201.out) hb); replace HB := zm (below_step zl hb); (try clear hb); (try clear hb2); (try clear hk); (try clear hi); (try clear ho0); obtain ⟨Ao23, co23, eo23⟩ := Kd.R_slice HO206.out; subst eo23) | ((with_reducible refine gate_callee (f := 15) rfl ?_); refine zg (some 18) Try.func15 #[.agg #[.int .i64 t203, .slice Ao23 t204.length co23]] ?_; (with_reducible refine (spec_NullsOfFact.calls k t203 _ _ t204 t207 _ ?side1 ?side2 A8.out).mono ?_); (case side1 => repeat (first | exact (Kd.R_reads' HO206.out).2.2 | (with_reducible refine Kd.C_alloc ?_ _) | (with_reducible refine Kd.C_drewN ?_ _) | (with_reducible refine Kd.C_drew ?_))); (case side2 => exact (Kd.R_reads' HO206.out).2.1); rintro e w24 ⟨v208, rfl, ho0, hb⟩; refine ⟨_, rfl, ?_⟩; have HO209 := zm (Kd.R_lower (Kd.R_new' ho0 (Kd.R_lt (zr HO206.out))) (below_size zl)); replace HO206 := zm (Kd.R_elder' (zr HO206.out) (Kd.R_base ho0) hb); replace BK201 := zm (blk_below (zb BK201.out) hb); replace HB := zm (below_step zl hb); (try clear hb); (try clear hb2); (try clear hk); (try clear hi); (try clear ho0); have hcz25_0 : w24.cell? ⟨gb201, 0, none⟩ = some (.int .i64 a0_0) := (blk_cell BK201.out 0).trans rfl; have hcz25_1 : w24.cell? ⟨gb201, 1, none⟩ = some (.slice A0_1 l0_1.length c0_1) := (blk_cell BK201.out 1).trans rfl; have hfz25_0 := blk_frozen BK201.out 0; have hfz25_1 := blk_frozen BK201.out 1) | ((with_reducible refine gate_callee (f := 16) rfl ?_); refine zg (some 20) Try.func16 #[.agg #[.int .i64 a0_0, .slice A0_1 l0_1.length c0_1]] ?_; (with_reducible refine (laws_toFact.calls k a0_0 _ _ l0_1 t210 t211 _ ?side1 ?side2 A9.out).mono ?_); (case side1 => exact zc HR0_1.out); (case side2 => exact HC0_1.out); rintro e w26 ⟨v212, rfl, ho0, hb⟩; refine ⟨_, rfl, ?_⟩; have HO213 := zm (Kd.R_lower (Kd.R_new' (Kd.R_new' ho0 (Kd.R_lt (zr HO206.out))) (Kd.R_lt (zr HO209.out))) (below_size zl)); replace HO206 := zm (Kd.R_elder' (zr HO206.out) (Kd.R_base ho0) hb); replace HO209 := zm (Kd.R_elder' (zr HO209.out) (Kd.R_base ho0) hb); replace BK201 := zm (blk_below (zb BK201.out) hb); replace HB := zm (below_step zl hb); (try clear hb); (try clear hb2); (try clear hk); (try clear hi); (try clear ho0)) | ((with_reducible refine gate_dst (N := 5) rfl ?_); refine box_event ?hg (N := 5) ?hd (cs := #[.int .i64 0, .slice none 0 0]) (t := 39) ?hr ?_; (case hd => rfl); (case hg => rfl); (case hr => first | (go_simp; done) | (go_simp; rfl)); intro gb214 hg w27 hbox hb; replace HO206 := zm (Kd.R_below (zr HO206.out) hb); replace HO209 := zm (Kd.R_below (zr HO209.out) hb); replace HO213 := zm (Kd.R_below (zr HO213.out) hb); have BK214 := zm (hbox); have GW214 := zm ((by rw [hg]; exact (below_size zl) : w.heap.size ≤ gb214)); have GE214 := zm ((by rw [hg]; exact (below_size zl) : w.heap.size ≤ gb214)); replace HB := zm (below_step zl hb); have NB201_214 := zm ((by rw [hg]; exact Nat.ne_of_lt (blk_lt (zb BK201.out)) : gb201 ≠ gb214)); have NB214_201 := zm ((by rw [hg]; exact Nat.ne_of_gt (blk_lt (zb BK201.out)) : gb214 ≠ gb201)); replace BK201 := zm (blk_below (zb BK201.out) hb); clear hb hbox hg; have hnb28 := NB214_201.out; have hnc28 := NB201_214.out; have hcz29_0 : w27.cell? ⟨gb214, 0, none⟩ = some (.int .i64 0) := (blk_cell BK214.out 0).trans rfl; have hcz29_1 : w27.cell? ⟨gb214, 1, none⟩ = some (.slice none 0 0) := (blk_cell BK214.out 1).trans rfl; have hfz29_0 := blk_frozen BK214.out 0; have hfz29_1 := blk_frozen BK214.out 1; obtain ⟨Ao30, co30, eo30⟩ := Kd.R_slice HO213.out; subst eo30) | ((with_reducible refine gate_callee (f := 17) rfl ?_); refine zg (some 22) Try.func17 #[.agg #[.int .i64 t210, .slice Ao30 t211.length co30]] ?_; (with_reducible refine (impl_NullsOfFact.calls k t210 _ _ t211 t215 _ ?side1 ?side2 A10.out).mono ?_); (case side1 => refine (Kd.R_reads' (e := 3) (base := w.heap.size) (ok := fun k_ => ((True ∧ some k_ ≠ (.slice Ao23 t204.length co23 : Value).ownBlock) ∧ some k_ ≠ (v208 : Value).ownBlock)) (n := t211.length) (c := co30) ?_).2.2; exact (zr (Kd.R_mono (Kd.R_far (p := ⟨gb214, 1, none⟩) (Kd.R_far (p := ⟨gb214, 0, none⟩) (Kd.R_types HO213.out BK214.out (by decide)) (fun _ hk => hk.2) (.int .i64 t210)) (fun _ hk => hk.2) (.slice Ao30 t211.length co30)) (fun _ h_ => h_.1)))); (case side2 => exact (Kd.R_reads' HO213.out).2.1); rintro e w31 ⟨v216, rfl, ho0, hb⟩; refine ⟨_, rfl, ?_⟩; have HO217 := zm (Kd.R_lower (Kd.R_new' (Kd.R_new' (Kd.R_new' ho0 (Kd.R_lt (zr (Kd.R_mono (Kd.R_far (p := ⟨gb214, 1, none⟩) (Kd.R_far (p := ⟨gb214, 0, none⟩) (Kd.R_types HO206.out BK214.out (by decide)) (fun _ hk => hk.2) (.int .i64 t210)) (fun _ hk => hk.2) (.slice Ao30 t211.length co30)) (fun _ h_ => h_.1))))) (Kd.R_lt (zr (Kd.R_mono (Kd.R_far (p := ⟨gb214, 1, none⟩) (Kd.R_far (p := ⟨gb214, 0, none⟩) (Kd.R_types HO209.out BK214.out (by decide)) (fun _ hk => hk.2) (.int .i64 t210)) (fun _ hk => hk.2) (.slice Ao30 t211.length co30)) (fun _ h_ => h_.1))))) (Kd.R_lt (zr (Kd.R_mono (Kd.R_far (p := ⟨gb214, 1, none⟩) (Kd.R_far (p := ⟨gb214, 0, none⟩) (Kd.R_types HO213.out BK214.out (by decide)) (fun _ hk => hk.2) (.int .i64 t210)) (fun _ hk => hk.2) (.slice Ao30 t211.length co30)) (fun _ h_ => h_.1))))) (below_size zl)); replace HO206 := zm (Kd.R_elder' (zr (Kd.R_mono (Kd.R_far (p := ⟨gb214, 1, none⟩) (Kd.R_far (p := ⟨gb214, 0, none⟩) (Kd.R_types HO206.out BK214.out (by decide)) (fun _ hk => hk.2) (.int .i64 t210)) (fun _ hk => hk.2) (.slice Ao30 t211.length co30)) (fun _ h_ => h_.1))) (Kd.R_base ho0) hb); replace HO209 := zm (Kd.R_elder' (zr (Kd.R_mono (Kd.R_far (p := ⟨gb214, 1, none⟩) (Kd.R_far (p := ⟨gb214, 0, none⟩) (Kd.R_types HO209.out BK214.out (by decide)) (fun _ hk => hk.2) (.int .i64 t210)) (fun _ hk => hk.2) (.slice Ao30 t211.length co30)) (fun _ h_ => h_.1))) (Kd.R_base ho0) hb); replace HO213 := zm (Kd.R_elder' (zr (Kd.R_mono (Kd.R_far (p := ⟨gb214, 1, none⟩) (Kd.R_far (p := ⟨gb214, 0, none⟩) (Kd.R_types HO213.out BK214.out (by decide)) (fun _ hk => hk.2) (.int .i64 t210)) (fun _ hk => hk.2) (.slice Ao30 t211.length co30)) (fun _ h_ => h_.1))) (Kd.R_base ho0) hb); replace BK201 := zm (blk_below (g := gb201) (o := .cells #[.int .i64 a0_0, .slice A0_1 l0_1.length c0_1] 36 (0, 0)) (by (with_reducible repeat (first | refine blk_drewN ?_ _ | refine blk_drew ?_ | refine blk_alloc ?_ _)); refine blk_far ?_ NB201_214.out _; (with_reducible repeat (first | refine blk_drewN ?_ _ | refine blk_drew ?_ | refine blk_alloc ?_ _)); refine blk_far ?_ NB201_214.out _; (with_reducible repeat (first | refine blk_drewN ?_ _ | refine blk_drew ?_ | refine blk_alloc ?_ _)); exact BK201.out) hb); replace BK214 := zm (blk_below (g := gb214) (o := .cells #[.int .i64 t210, .slice Ao30 t211.length co30] 39 (0, 0)) (by (with_reducible repeat (first | refine blk_drewN ?_ _ | refine blk_drew ?_ | refine blk_alloc ?_ _)); refine blk_put (cs := #[.int .i64 t210, .slice none 0 0]) ?_ 1 _ rfl; (with_reducible repeat (first | refine blk_drewN ?_ _ | refine blk_drew ?_ | refine blk_alloc ?_ _)); refine blk_put (cs := #[.int .i64 0, .slice none 0 0]) ?_ 0 _ rfl; (with_reducible repeat (first | refine blk_drewN ?_ _ | refine blk_drew ?_ | refine blk_alloc ?_ _)); exact BK214.out) hb); replace HB := zm (below_step zl hb); (try clear hb); (try clear hb2); (try clear hk); (try clear hi); (try clear ho0); obtain ⟨Ao32, co32, eo32⟩ := Kd.R_slice HO217.out; subst eo32; obtain ⟨Ao33, co33, eo33⟩ := Kd.R_slice HO209.out; subst eo33) | ((with_reducible refine gate_callee (f := 18) rfl ?_); refine zg (some 25) Try.func18 #[.slice Ao32 t215.length co32, .slice Ao33 t207.length co33] ?_; (with_reducible refine (laws_eqIntS.calls k _ _ t215 _ _ t207 true _ ?side1 ?side2 ?side3 ?side4 A11.out).mono ?_); (case side1 => repeat (first | exact (Kd.R_reads' HO217.out).2.2 | (with_reducible refine Kd.C_alloc ?_ _) | (with_reducible refine Kd.C_drewN ?_ _) | (with_reducible refine Kd.C_drew ?_))); (case side2 => exact (Kd.R_reads' HO217.out).2.1); (case side3 => repeat (first | exact (Kd.R_reads' HO209.out).2.2 | (with_reducible refine Kd.C_alloc ?_ _) | (with_reducible refine Kd.C_drewN ?_ _) | (with_reducible refine Kd.C_drew ?_))); (case side4 => exact (Kd.R_reads' HO209.out).2.1); rintro e w' ⟨rfl, ⟨nd, rfl⟩⟩; refine ⟨_, rfl, ?_⟩))
        (try (rw [drewN_self w31]; generalize hq_ : World.drewN w31 _ = w31; have n0_ : Aside0 (Kd.R (Kd.int .i64) 3 w31 w.heap.size (fun k_ => (((True ∧ some k_ ≠ (.slice Ao33 t207.length co33 : Value).ownBlock) ∧ some k_ ≠ (.slice Ao30 t211.length co30 : Value).ownBlock) ∧ some k_ ≠ (.slice Ao32 t215.length co32 : Value).ownBlock)) (.slice Ao23 t204.length co23) t204) := ⟨by rw [← hq_]; exact (zr HO206.out)⟩; have n1_ : Aside0 (Kd.R (Kd.int .i64) 3 w31 w.heap.size (fun k_ => (((True ∧ some k_ ≠ (.slice Ao23 t204.length co23 : Value).ownBlock) ∧ some k_ ≠ (.slice Ao30 t211.length co30 : Value).ownBlock) ∧ some k_ ≠ (.slice Ao32 t215.length co32 : Value).ownBlock)) (.slice Ao33 t207.length co33) t207) := ⟨by rw [← hq_]; exact (zr HO209.out)⟩; have n2_ : Aside0 (Kd.R (Kd.int .i64) 3 w31 w.heap.size (fun k_ => (((True ∧ some k_ ≠ (.slice Ao23 t204.length co23 : Value).ownBlock) ∧ some k_ ≠ (.slice Ao33 t207.length co33 : Value).ownBlock) ∧ some k_ ≠ (.slice Ao32 t215.length co32 : Value).ownBlock)) (.slice Ao30 t211.length co30) t211) := ⟨by rw [← hq_]; exact (zr HO213.out)⟩; have n3_ : Aside0 (Kd.R (Kd.int .i64) 3 w31 w.heap.size (fun k_ => (((True ∧ some k_ ≠ (.slice Ao23 t204.length co23 : Value).ownBlock) ∧ some k_ ≠ (.slice Ao33 t207.length co33 : Value).ownBlock) ∧ some k_ ≠ (.slice Ao30 t211.length co30 : Value).ownBlock)) (.slice Ao32 t215.length co32) t215) := ⟨by rw [← hq_]; exact (zr HO217.out)⟩; have n4_ : Aside0 (w31.heap[gb201]? = some (.cells #[.int .i64 a0_0, .slice A0_1 l0_1.length c0_1] 36 (0, 0))) := ⟨by rw [← hq_]; exact (zb BK201.out)⟩; have n5_ : Aside0 (w31.heap[gb214]? = some (.cells #[.int .i64 t210, .slice Ao30 t211.length co30] 39 (0, 0))) := ⟨by rw [← hq_]; exact (zb BK214.out)⟩; have n6_ : Aside0 (Below w.heap.size w w31) := ⟨by rw [← hq_]; exact zl⟩; clear HO206 HO209 HO213 HO217 BK201 BK214 HB hq_; have HO206 := n0_; have HO209 := n1_; have HO213 := n2_; have HO217 := n3_; have BK201 := n4_; have BK214 := n5_; have HB := n6_; clear n0_ n1_ n2_ n3_ n4_ n5_ n6_))
        replace HO206 := zm (Kd.R_drew HO206.out)
        replace HO209 := zm (Kd.R_drew HO209.out)
        replace HO213 := zm (Kd.R_drew HO213.out)
        replace HO217 := zm (Kd.R_drew HO217.out)
        replace BK201 := zm (blk_drew BK201.out)
        replace BK214 := zm (blk_drew BK214.out)
        replace HB := zm (below_drew1 HB.out)
        refine start_ (n := 5) (S := fun w' => w'.cell? ⟨gb214, 0, none⟩ = some (.int .i64 t210) ∧ w'.cell? ⟨gb214, 1, none⟩ = some (.slice Ao30 t211.length co30) ∧ w'.cell? ⟨gb201, 0, none⟩ = some (.int .i64 a0_0) ∧ w'.cell? ⟨gb201, 1, none⟩ = some (.slice A0_1 l0_1.length c0_1)) (ds := []) #[false, false, false, false, false] (by kernel_rfl) rfl rfl ⟨(blk_cell BK214.out 0).trans rfl, (blk_cell BK214.out 1).trans rfl, (blk_cell BK201.out 0).trans rfl, (blk_cell BK201.out 1).trans rfl⟩ (fun hHeld => ?_)
        generalize w31.drew = w34 at HO206 HO209 HO213 HO217 BK201 BK214 HB hHeld ⊢
        refine take_ (i := 0) (N := some 27) (v := ?_) (a' := ?_) #[true, false, false, false, false] rfl rfl (by kernel_rfl) (fun _ _ _ h => h) (Or.inl ⟨by rfl, ?_⟩) hHeld ?_ ?_
        rotate_left
        · rintro w' ⟨s0, s1, s2, s3⟩
          go_simp
          with_reducible rfl
        rotate_left
        · simp only [Act.put, List.setIfInBounds_toArray, List.set_cons_zero, List.set_cons_succ, i64_w, i32_w]
          rfl
        refine take_ (i := 1) (N := some 28) (v := ?_) (a' := ?_) #[true, true, false, false, false] rfl rfl (by kernel_rfl) (fun _ _ _ h => h) (Or.inl ⟨by rfl, ?_⟩) hHeld ?_ ?_
        rotate_left
        · rintro w' ⟨s0, s1, s2, s3⟩
          go_simp
          with_reducible rfl
        rotate_left
        · simp only [Act.put, List.setIfInBounds_toArray, List.set_cons_zero, List.set_cons_succ, i64_w, i32_w]
          rfl
        refine one_ (i := 2) (N := some 29) #[true, true, true, false, false] rfl rfl (by kernel_rfl) (by decide) (fun K hK => ?_)
        refine goes_ Try.func16 (by kernel_rfl) rfl #[.agg #[.int .i64 a0_0, .slice A0_1 l0_1.length c0_1]] (by rfl) rfl rfl (by (try simp only [List.map_toArray, List.map_cons, List.map_nil]); first | done | rfl | (simp only [List.length_drop, List.length_take]; rfl)) ?_
        with_reducible refine (laws_toFact.calls k a0_0 _ _ l0_1 t219 t220 _ ?side1 ?side2 A13.out).mono ?_
        (case side1 => exact zc HR0_1.out)
        (case side2 => exact HC0_1.out)
        rintro e w35 ⟨v221, rfl, ho0, hb⟩
        refine ⟨_, rfl, ?_⟩
        have HO222 := zm (Kd.R_lower (Kd.R_new' (Kd.R_new' (Kd.R_new' (Kd.R_new' ho0 (Kd.R_lt (zr HO206.out))) (Kd.R_lt (zr HO209.out))) (Kd.R_lt (zr HO213.out))) (Kd.R_lt (zr HO217.out))) (below_size zl))
        replace HO206 := zm (Kd.R_elder' (zr HO206.out) (Kd.R_base ho0) hb)
        replace HO209 := zm (Kd.R_elder' (zr HO209.out) (Kd.R_base ho0) hb)
        replace HO213 := zm (Kd.R_elder' (zr HO213.out) (Kd.R_base ho0) hb)
        replace HO217 := zm (Kd.R_elder' (zr HO217.out) (Kd.R_base ho0) hb)
        replace BK201 := zm (blk_below (zb BK201.out) hb)
        replace BK214 := zm (blk_below (zb BK214.out) hb)
        replace HB := zm (below_step zl hb)
        (try clear hb)
        (try clear hb2)
        (try clear hk)
        (try clear hi)
        (try clear ho0)
        obtain ⟨Ao36, co36, eo36⟩ := Kd.R_slice HO222.out
        (first | subst eo36 | (injection eo36 with f1_ f2_ f3_; have f4_ := f1_.symm; have f5_ := f3_.symm; clear f1_ f2_ f3_; subst f4_; subst f5_))
        refine hK.out _ _ ⟨(blk_cell BK214.out 0).trans rfl, (blk_cell BK214.out 1).trans rfl, (blk_cell BK201.out 0).trans rfl, (blk_cell BK201.out 1).trans rfl⟩ (fun hHeld => ?_)
        clear hK K
        refine norm_ (a' := ?_) ?_ ?_
        rotate_left
        · show Act.put _ (some 29) _ = _
          simp only [Act.put, List.setIfInBounds_toArray, List.set_cons_zero, List.set_cons_succ, i64_w, i32_w]
          rfl
        refine one_ (i := 3) (N := some 30) #[true, true, true, true, false] rfl rfl (by kernel_rfl) (by decide) (fun K hK => ?_)
        refine goes_ Try.func19 (by kernel_rfl) rfl #[.agg #[.int .i64 t210, .slice Ao30 t211.length co30], .agg #[.int .i64 t219, .slice Ao36 t220.length co36]] (by rfl) rfl rfl (by (try simp only [List.map_toArray, List.map_cons, List.map_nil]); first | done | rfl | (simp only [List.length_drop, List.length_take]; rfl)) ?_
        with_reducible refine (laws_eqFact.calls k t210 _ _ t211 t219 _ _ t220 true _ ?side1 ?side2 ?side3 ?side4 A14.out).mono ?_
        (case side1 => repeat (first | exact (Kd.R_reads' HO213.out).2.2 | (with_reducible refine Kd.C_alloc ?_ _) | (with_reducible refine Kd.C_drewN ?_ _) | (with_reducible refine Kd.C_drew ?_)))
        (case side2 => exact (Kd.R_reads' HO213.out).2.1)
        (case side3 => repeat (first | exact (Kd.R_reads' HO222.out).2.2 | (with_reducible refine Kd.C_alloc ?_ _) | (with_reducible refine Kd.C_drewN ?_ _) | (with_reducible refine Kd.C_drew ?_)))
        (case side4 => exact (Kd.R_reads' HO222.out).2.1)
        rintro e w37 ⟨rfl, hb⟩
        refine ⟨_, rfl, ?_⟩
        replace HO206 := zm (Kd.R_below (zr HO206.out) hb)
        replace HO209 := zm (Kd.R_below (zr HO209.out) hb)
        replace HO213 := zm (Kd.R_below (zr HO213.out) hb)
        replace HO217 := zm (Kd.R_below (zr HO217.out) hb)
        replace HO222 := zm (Kd.R_below (zr HO222.out) hb)
        replace BK201 := zm (blk_below (zb BK201.out) hb)
        replace BK214 := zm (blk_below (zb BK214.out) hb)
        replace HB := zm (below_step zl hb)
        (try clear hb)
        (try clear hb2)
        (try clear hk)
        (try clear hi)
        refine hK.out _ _ ⟨(blk_cell BK214.out 0).trans rfl, (blk_cell BK214.out 1).trans rfl, (blk_cell BK201.out 0).trans rfl, (blk_cell BK201.out 1).trans rfl⟩ (fun hHeld => ?_)
        clear hK K
        refine norm_ (a' := ?_) ?_ ?_
        rotate_left
        · show Act.put _ (some 30) _ = _
          simp only [Act.put, List.setIfInBounds_toArray, List.set_cons_zero, List.set_cons_succ, i64_w, i32_w]
          rfl
        refine pure_ (i := 4) (N := some 31) (v := ?_) (a' := ?_) #[true, true, true, true, true] rfl rfl (by kernel_rfl) (fun _ _ _ h => h) (Or.inl ⟨by rfl, ?_⟩) ?_ ?_
        rotate_left
        · intro w'
          go_simp
          with_reducible rfl
        rotate_left
        · simp only [Act.put, List.setIfInBounds_toArray, List.set_cons_zero, List.set_cons_succ, i64_w, i32_w]
          rfl
        refine done_ (by kernel_rfl) ?_
        have hcz38_0 : w37.cell? ⟨gb214, 0, none⟩ = some (.int .i64 t210) := (blk_cell BK214.out 0).trans rfl
        have hcz38_1 : w37.cell? ⟨gb214, 1, none⟩ = some (.slice Ao30 t211.length co30) := (blk_cell BK214.out 1).trans rfl
        have hfz38_0 := blk_frozen BK214.out 0
        have hfz38_1 := blk_frozen BK214.out 1
        go_upto_region 14 with (first | ((with_reducible refine gate_callee (f := 20) rfl ?_); refine zg (some 34) Try.func20 #[.agg #[.int .i64 t210, .slice Ao30 t211.length co30], .int .i64 1] ?_; (with_reducible refine (laws_markFact.calls k t210 (fun k_ => some k_ = (.slice Ao30 t211.length co30 : Value).ownBlock) (.slice Ao30 t211.length co30) t211 1 t224 t225 w _ ?side1 ?side2 A16.out).mono ?_); (case side1 => exact zl); (case side2 => exact Kd.R_tight rfl HO213.out); rintro e w39 ⟨rfl, hy0, hb, hkp⟩; refine ⟨_, rfl, ?_⟩; replace BK201 := zm (blk_kept (zb BK201.out) hkp (fun hs_ => (fun e_ => (Kd.R_ne HO213.out BK201.out (by decide)) e_) hs_)); replace HO206 := zm (Kd.R_mono (ok' := fun k_ => some k_ ≠ (.slice Ao33 t207.length co33 : Value).ownBlock ∧ some k_ ≠ (.slice Ao30 t211.length co30 : Value).ownBlock ∧ some k_ ≠ (.slice Ao32 t215.length co32 : Value).ownBlock ∧ some k_ ≠ (.slice Ao36 t220.length co36 : Value).ownBlock) (Kd.R_keptB (HO206.out) hkp (fun k_ hk_ hs_ => (hk_.1.1.2) hs_)) (fun k_ hk_ => ⟨hk_.1.1.1.1.2, hk_.1.1.1.2, hk_.1.1.2, hk_.1.2⟩)); replace HO209 := zm (Kd.R_mono (ok' := fun k_ => some k_ ≠ (.slice Ao23 t204.length co23 : Value).ownBlock ∧ some k_ ≠ (.slice Ao30 t211.length co30 : Value).ownBlock ∧ some k_ ≠ (.slice Ao32 t215.length co32 : Value).ownBlock ∧ some k_ ≠ (.slice Ao36 t220.length co36 : Value).ownBlock) (Kd.R_keptB (HO209.out) hkp (fun k_ hk_ hs_ => (hk_.1.1.2) hs_)) (fun k_ hk_ => ⟨hk_.1.1.1.1.2, hk_.1.1.1.2, hk_.1.1.2, hk_.1.2⟩)); replace BK214 := zm (blk_kept (zb BK214.out) hkp (fun hs_ => (fun e_ => (Kd.R_ne HO213.out BK214.out (by decide)) e_) hs_)); replace HO213 := zm (Kd.R_reok rfl hy0 (fun k_ e_ => HO213.out.1 k_ e_)); replace HO217 := zm (Kd.R_mono (ok' := fun k_ => some k_ ≠ (.slice Ao23 t204.length co23 : Value).ownBlock ∧ some k_ ≠ (.slice Ao33 t207.length co33 : Value).ownBlock ∧ some k_ ≠ (.slice Ao30 t211.length co30 : Value).ownBlock ∧ some k_ ≠ (.slice Ao36 t220.length co36 : Value).ownBlock) (Kd.R_keptB (HO217.out) hkp (fun k_ hk_ hs_ => (hk_.1.2) hs_)) (fun k_ hk_ => ⟨hk_.1.1.1.1.2, hk_.1.1.1.2, hk_.1.1.2, hk_.1.2⟩)); replace HO222 := zm (Kd.R_mono (ok' := fun k_ => some k_ ≠ (.slice Ao23 t204.length co23 : Value).ownBlock ∧ some k_ ≠ (.slice Ao33 t207.length co33 : Value).ownBlock ∧ some k_ ≠ (.slice Ao30 t211.length co30 : Value).ownBlock ∧ some k_ ≠ (.slice Ao32 t215.length co32 : Value).ownBlock) (Kd.R_keptB (HO222.out) hkp (fun k_ hk_ hs_ => (hk_.1.2) hs_)) (fun k_ hk_ => ⟨hk_.1.1.1.1.2, hk_.1.1.1.2, hk_.1.1.2, hk_.1.2⟩)); replace HB := zm (hb); (try clear hb); (try clear hkp); (try clear hy0)))
        (try simp only [Act.put, List.setIfInBounds_toArray, List.set_cons_zero, List.set_cons_succ])
        go_cut [42] (fun v42 wc => ∃ (kq : Nat) (x42_16 : Bool), v42 = .bool x42_16 ∧ Aside0 (laws_FnExactNullsOfFact.j0 kq t207 t215 x42_16 a0_0 l0_1 = some true) ∧ Aside0 (kq ≤ k) ∧ Aside0 (Kd.R (Kd.int .i64) 3 wc w.heap.size (fun k_ => some k_ ≠ ((.slice Ao32 t215.length co32) : Value).ownBlock ∧ some k_ ≠ ((.slice Ao30 t211.length co30) : Value).ownBlock) (.slice Ao33 t207.length co33) t207) ∧ Aside0 (Kd.R (Kd.int .i64) 3 wc w.heap.size (fun k_ => some k_ ≠ ((.slice Ao33 t207.length co33) : Value).ownBlock ∧ some k_ ≠ ((.slice Ao30 t211.length co30) : Value).ownBlock) (.slice Ao32 t215.length co32) t215) ∧ Aside0 (Kd.R (Kd.int .i64) 3 wc w.heap.size (fun k_ => some k_ ≠ ((.slice Ao33 t207.length co33) : Value).ownBlock ∧ some k_ ≠ ((.slice Ao32 t215.length co32) : Value).ownBlock) (.slice Ao30 t211.length co30) t225) ∧ Aside0 (wc.heap[gb201]? = some (.cells #[.int .i64 a0_0, (.slice A0_1 l0_1.length c0_1)] 36 (0, 0))) ∧ Aside0 (wc.heap[gb214]? = some (.cells #[.int .i64 t210, (.slice Ao30 t211.length co30)] 39 (0, 0))) ∧ Aside0 (Below w.heap.size w wc))
        case first =>
          have H := HC17.out
          clear HC17
          by_cases c40 : t224 < 0
          · rw [if_pos c40] at H
            have c40b0 : decide (t224 < 0) = true := decide_eq_true c40
            clear c40
            (first | rw [c40b0] | (simp only [i64_w, i32_w]; rw [c40b0]) | skip)
            have H' := Aside0.mk H
            clear H
            go_wp2
            go_meet
            case rel => exact ⟨_, (true), (by first | rfl | (simp; done) | (simp [*]; done)), H', ⟨by first | omega | exact Nat.le_refl _⟩, ⟨by (with_reducible repeat (first | apply Kd.R_alloc | apply Kd.R_drewN | apply Kd.R_drew)); exact Kd.R_mono HO209.out (fun _ hk => ⟨hk.2.2.1, hk.2.1⟩)⟩, ⟨by (with_reducible repeat (first | apply Kd.R_alloc | apply Kd.R_drewN | apply Kd.R_drew)); exact Kd.R_mono HO217.out (fun _ hk => ⟨hk.2.1, hk.2.2.1⟩)⟩, ⟨by (with_reducible repeat (first | apply Kd.R_alloc | apply Kd.R_drewN | apply Kd.R_drew)); exact Kd.R_mono HO213.out (fun _ hk => ⟨hk.1.1.2, hk.1.2⟩)⟩, ⟨by (with_reducible repeat (first | refine blk_drewN ?_ _ | refine blk_drew ?_ | refine blk_alloc ?_ _)); exact BK201.out⟩, ⟨by (with_reducible repeat (first | refine blk_drewN ?_ _ | refine blk_drew ?_ | refine blk_alloc ?_ _)); exact BK214.out⟩, ⟨by repeat (first | (with_reducible first | exact HB.out | apply below_alloc | apply pw_below_drewN | apply below_drew1 | refine below_set ?_ GE201.out | refine below_set ?_ GE214.out) | exact HB.out)⟩⟩
          · rw [if_neg c40] at H
            have c40b0 : decide (t224 < 0) = false := decide_eq_false c40
            clear c40
            (first | rw [c40b0] | (simp only [i64_w, i32_w]; rw [c40b0]) | skip)
            replace H := Option.bind_eq_some_iff.mp H
            obtain ⟨t226, A410, H⟩ := H
            replace H : (laws_FnExactNullsOfFact.j0 k t207 t215 (!t226) a0_0 l0_1) = some true := H
            have A41 := Aside0.mk A410
            clear A410
            have H' := Aside0.mk H
            clear H
            go_wp2_with (first | (go_at_call 18; (with_reducible refine (laws_eqIntS.calls k _ _ t215 _ _ t207 t226 _ ?side1 ?side2 ?side3 ?side4 A41.out).mono ?_); (case side1 => repeat (first | exact (Kd.R_reads' HO217.out).2.2 | (with_reducible refine Kd.C_alloc ?_ _) | (with_reducible refine Kd.C_drewN ?_ _) | (with_reducible refine Kd.C_drew ?_))); (case side2 => exact (Kd.R_reads' HO217.out).2.1); (case side3 => repeat (first | exact (Kd.R_reads' HO209.out).2.2 | (with_reducible refine Kd.C_alloc ?_ _) | (with_reducible refine Kd.C_drewN ?_ _) | (with_reducible refine Kd.C_drew ?_))); (case side4 => exact (Kd.R_reads' HO209.out).2.1); rintro e w' ⟨rfl, ⟨nd, rfl⟩⟩))
            go_meet
            case rel => exact ⟨_, (!t226), (by first | rfl | (simp; done) | (simp [*]; done)), H', ⟨by first | omega | exact Nat.le_refl _⟩, ⟨by (with_reducible repeat (first | apply Kd.R_alloc | apply Kd.R_drewN | apply Kd.R_drew)); exact Kd.R_mono HO209.out (fun _ hk => ⟨hk.2.2.1, hk.2.1⟩)⟩, ⟨by (with_reducible repeat (first | apply Kd.R_alloc | apply Kd.R_drewN | apply Kd.R_drew)); exact Kd.R_mono HO217.out (fun _ hk => ⟨hk.2.1, hk.2.2.1⟩)⟩, ⟨by (with_reducible repeat (first | apply Kd.R_alloc | apply Kd.R_drewN | apply Kd.R_drew)); exact Kd.R_mono HO213.out (fun _ hk => ⟨hk.1.1.2, hk.1.2⟩)⟩, ⟨by (with_reducible repeat (first | refine blk_drewN ?_ _ | refine blk_drew ?_ | refine blk_alloc ?_ _)); exact BK201.out⟩, ⟨by (with_reducible repeat (first | refine blk_drewN ?_ _ | refine blk_drew ?_ | refine blk_alloc ?_ _)); exact BK214.out⟩, ⟨by repeat (first | (with_reducible first | exact HB.out | apply below_alloc | apply pw_below_drewN | apply below_drew1 | refine below_set ?_ GE201.out | refine below_set ?_ GE214.out) | exact HB.out)⟩⟩
        case rest =>
          clear HC17
          try clear c1
          try clear c2
          try clear p2
          try clear c3
          try clear c3b0
          try clear c4
          try clear c5
          try clear c12
          try clear c14
          try clear c15
          try clear c16
          try clear c17
          try clear c18
          try clear c19
          try clear c20
          try clear c28
          try clear c40
          try clear c40b0
          try clear hcz19_0
          try clear hcz19_1
          try clear hcz21_0
          try clear hcz21_1
          try clear hcz25_0
          try clear hcz25_1
          try clear hcz29_0
          try clear hcz29_1
          try clear hcz38_0
          try clear hcz38_1
          try clear hcz5_0
          try clear hcz5_1
          try clear hfz19_0
          try clear hfz19_1
          try clear hfz21_0
          try clear hfz21_1
          try clear hfz25_0
          try clear hfz25_1
          try clear hfz29_0
          try clear hfz29_1
          try clear hfz38_0
          try clear hfz38_1
          try clear hfz5_0
          try clear hfz5_1
          obtain ⟨kq, x42_16, rfl, HA, HJ16, HO_4, HO_6, HO_215001, BK201, BK214, HB⟩ := hcut
          have hl215001_16 := (Kd.R_reads' HO_215001.out).1
          rw [hl215001_16] at HO_215001
          (try simp only [hl215001_16])
          (try simp only [hl215001_16] at BK201)
          (try simp only [hl215001_16] at BK214)
          (try simp only [hl215001_16] at HO_4)
          (try simp only [hl215001_16] at HO_6)
          cases kq with
          | zero => exact absurd HA.out (by simp [laws_FnExactNullsOfFact.j0])
          | succ kj16 =>
            have H := HA.out
            clear HA
            simp only [laws_FnExactNullsOfFact.j0] at H
            by_cases c42 : x42_16 = true
            · subst c42
              have H1 : (some false) = some true := by first | with_reducible rfl | (rw [if_pos rfl] at H; exact H)
              clear H
              have H := H1
              clear H1
              exact absurd H (by simp)
            · replace c42 := Bool.eq_false_iff.mpr c42
              subst c42
              have H1 : ((laws_markIntS.f kj16 t215 1).bind fun bt227 => ((laws_heldIntS.f kj16 bt227.2 1).bind fun t229 => (if t229 < 0 then (some false) else (if t229 = bt227.1 then ((laws_toFact.f kj16 a0_0 l0_1).bind fun bt230 => ((impl_NullsOfFact.f kj16 bt230.1 bt230.2).bind fun t234 => ((laws_eqIntS.f kj16 t234 t207).bind fun t237 => (if t237 = true then ((laws_heldIntS.f kj16 bt227.2 1).bind fun t238 => (if t238 < 0 then (some false) else (if t238 = bt227.1 then (some true) else (some false)))) else (some false))))) else (some false))))) = some true := by first | with_reducible rfl | (rw [if_neg (show ¬ (false = true) by decide)] at H; exact H)
              clear H
              have H := H1
              clear H1
              replace H := Option.bind_eq_some_iff.mp H
              obtain ⟨⟨t227, t228⟩, A430, H⟩ := H
              replace H : ((laws_heldIntS.f kj16 t228 1).bind fun t229 => (if t229 < 0 then (some false) else (if t229 = t227 then ((laws_toFact.f kj16 a0_0 l0_1).bind fun bt230 => ((impl_NullsOfFact.f kj16 bt230.1 bt230.2).bind fun t234 => ((laws_eqIntS.f kj16 t234 t207).bind fun t237 => (if t237 = true then ((laws_heldIntS.f kj16 t228 1).bind fun t238 => (if t238 < 0 then (some false) else (if t238 = t227 then (some true) else (some false)))) else (some false))))) else (some false)))) = some true := H
              have A43 := Aside0.mk A430
              clear A430
              replace H := Option.bind_eq_some_iff.mp H
              obtain ⟨t229, A440, H⟩ := H
              replace H : (if t229 < 0 then (some false) else (if t229 = t227 then ((laws_toFact.f kj16 a0_0 l0_1).bind fun bt230 => ((impl_NullsOfFact.f kj16 bt230.1 bt230.2).bind fun t234 => ((laws_eqIntS.f kj16 t234 t207).bind fun t237 => (if t237 = true then ((laws_heldIntS.f kj16 t228 1).bind fun t238 => (if t238 < 0 then (some false) else (if t238 = t227 then (some true) else (some false)))) else (some false))))) else (some false))) = some true := H
              have A44 := Aside0.mk A440
              clear A440
              by_cases c45 : t229 < 0
              · rw [if_pos c45] at H
                have c45b0 : decide (t229 < 0) = true := decide_eq_true c45
                clear c45
                exact absurd H (by simp)
              · rw [if_neg c45] at H
                have c45b0 : decide (t229 < 0) = false := decide_eq_false c45
                clear c45
                by_cases c46 : t229 = t227
                · rw [if_pos c46] at H
                  have c46b0 : (t229 == t227) = true := beq_iff_eq.mpr c46
                  have c46b1 : (t229 != t227) = false := bne_eq_false_iff_eq.mpr c46
                  clear c46
                  replace H := Option.bind_eq_some_iff.mp H
                  obtain ⟨⟨t230, t231⟩, A470, H⟩ := H
                  replace H : ((impl_NullsOfFact.f kj16 t230 t231).bind fun t234 => ((laws_eqIntS.f kj16 t234 t207).bind fun t237 => (if t237 = true then ((laws_heldIntS.f kj16 t228 1).bind fun t238 => (if t238 < 0 then (some false) else (if t238 = t227 then (some true) else (some false)))) else (some false)))) = some true := H
                  have A47 := Aside0.mk A470
                  clear A470
                  replace H := Option.bind_eq_some_iff.mp H
                  obtain ⟨t234, A480, H⟩ := H
                  replace H : ((laws_eqIntS.f kj16 t234 t207).bind fun t237 => (if t237 = true then ((laws_heldIntS.f kj16 t228 1).bind fun t238 => (if t238 < 0 then (some false) else (if t238 = t227 then (some true) else (some false)))) else (some false))) = some true := H
                  have A48 := Aside0.mk A480
                  clear A480
                  replace H := Option.bind_eq_some_iff.mp H
                  obtain ⟨t237, A490, H⟩ := H
                  replace H : (if t237 = true then ((laws_heldIntS.f kj16 t228 1).bind fun t238 => (if t238 < 0 then (some false) else (if t238 = t227 then (some true) else (some false)))) else (some false)) = some true := H
                  have A49 := Aside0.mk A490
                  clear A490
                  by_cases c50 : t237 = true
                  · subst c50
                    have H1 : ((laws_heldIntS.f kj16 t228 1).bind fun t238 => (if t238 < 0 then (some false) else (if t238 = t227 then (some true) else (some false)))) = some true := by first | with_reducible rfl | (rw [if_pos rfl] at H; exact H)
                    clear H
                    have H := H1
                    clear H1
                    replace H := Option.bind_eq_some_iff.mp H
                    obtain ⟨t238, A510, H⟩ := H
                    replace H : (if t238 < 0 then (some false) else (if t238 = t227 then (some true) else (some false))) = some true := H
                    have A51 := Aside0.mk A510
                    clear A510
                    by_cases c52 : t238 < 0
                    · rw [if_pos c52] at H
                      have c52b0 : decide (t238 < 0) = true := decide_eq_true c52
                      clear c52
                      exact absurd H (by simp)
                    · rw [if_neg c52] at H
                      have c52b0 : decide (t238 < 0) = false := decide_eq_false c52
                      clear c52
                      by_cases c53 : t238 = t227
                      · rw [if_pos c53] at H
                        have c53b0 : (t238 == t227) = true := beq_iff_eq.mpr c53
                        have c53b1 : (t238 != t227) = false := bne_eq_false_iff_eq.mpr c53
                        clear c53
                        clear H
                        go_wp2_with (first | ((with_reducible refine gate_callee (f := 21) rfl ?_); refine zg (some 45) Try.func21 #[.slice Ao32 t215.length co32, .int .i64 1] ?_; (with_reducible refine (laws_markIntS.calls kj16 (fun k_ => some k_ = (.slice Ao32 t215.length co32 : Value).ownBlock) (.slice Ao32 t215.length co32) t215 1 t227 t228 w _ ?side1 ?side2 A43.out).mono ?_); (case side1 => exact zl); (case side2 => exact Kd.R_tight rfl HO_6.out); rintro e w54 ⟨rfl, hy0, hb, hkp⟩; refine ⟨_, rfl, ?_⟩; replace HO_4 := zm (Kd.R_mono (ok' := fun k_ => some k_ ≠ (.slice Ao32 t215.length co32 : Value).ownBlock ∧ some k_ ≠ (.slice Ao30 t225.length co30 : Value).ownBlock) (Kd.R_keptB (HO_4.out) hkp (fun k_ hk_ hs_ => (hk_.1) hs_)) (fun k_ hk_ => ⟨hk_.1.1, hk_.1.2⟩)); replace HO_215001 := zm (Kd.R_mono (ok' := fun k_ => some k_ ≠ (.slice Ao33 t207.length co33 : Value).ownBlock ∧ some k_ ≠ (.slice Ao32 t215.length co32 : Value).ownBlock) (Kd.R_keptB (HO_215001.out) hkp (fun k_ hk_ hs_ => (hk_.2) hs_)) (fun k_ hk_ => ⟨hk_.1.1, hk_.1.2⟩)); replace BK201 := zm (blk_kept (zb BK201.out) hkp (fun hs_ => (fun e_ => (Kd.R_ne HO_6.out BK201.out (by decide)) e_) hs_)); replace BK214 := zm (blk_kept (zb BK214.out) hkp (fun hs_ => (fun e_ => (Kd.R_ne HO_6.out BK214.out (by decide)) e_) hs_)); replace HO_6 := zm (Kd.R_reok rfl hy0 (fun k_ e_ => HO_6.out.1 k_ e_)); replace HB := zm (hb); (try clear hb); (try clear hkp); (try clear hy0)) | ((with_reducible refine gate_callee (f := 22) rfl ?_); refine goesL_ (some 48) rfl rfl Try.func22 (by kernel_rfl) rfl #[.slice Ao32 t228.length co32, .int .i64 1] rfl (by (try simp only [List.map_toArray, List.map_cons, List.map_nil]); first | done | (rw [show t228.length = t215.length from (Kd.R_reads' HO_6.out).1.symm] <;> rfl) | rfl | (simp only [List.length_drop, List.length_take]; rfl)) ?_; (with_reducible refine (laws_heldIntS.calls kj16 _ _ t228 1 t229 _ ?side1 ?side2 A44.out).mono ?_); (case side1 => repeat (first | exact (Kd.R_reads' HO_6.out).2.2 | (with_reducible refine Kd.C_alloc ?_ _) | (with_reducible refine Kd.C_drewN ?_ _) | (with_reducible refine Kd.C_drew ?_))); (case side2 => rw [show t228.length = t215.length from (Kd.R_reads' HO_6.out).1.symm]; exact (Kd.R_reads' HO_6.out).2.1); rintro e w' ⟨rfl, ⟨nd, rfl⟩⟩; refine ⟨_, rfl, ?_⟩; have hnb55 := NB201_214.out; have hnc55 := NB214_201.out; have hcz56_0 : w54.cell? ⟨gb201, 0, none⟩ = some (.int .i64 a0_0) := (blk_cell BK201.out 0).trans rfl; have hcz56_1 : w54.cell? ⟨gb201, 1, none⟩ = some (.slice A0_1 l0_1.length c0_1) := (blk_cell BK201.out 1).trans rfl; have hfz56_0 := blk_frozen BK201.out 0; have hfz56_1 := blk_frozen BK201.out 1) | ((with_reducible refine gate_callee (f := 16) rfl ?_); refine zg (some 55) Try.func16 #[.agg #[.int .i64 a0_0, .slice A0_1 l0_1.length c0_1]] ?_; (with_reducible refine (laws_toFact.calls kj16 a0_0 _ _ l0_1 t230 t231 _ ?side1 ?side2 A47.out).mono ?_); (case side1 => repeat (first | exact (Kd.C_below HR0_1.out zl) | (with_reducible refine Kd.C_alloc ?_ _) | (with_reducible refine Kd.C_drewN ?_ _) | (with_reducible refine Kd.C_drew ?_))); (case side2 => exact HC0_1.out); rintro e w57 ⟨v232, rfl, ho0, hb⟩; refine ⟨_, rfl, ?_⟩; have HO233 := zm (Kd.R_lower (Kd.R_new' (Kd.R_new' (Kd.R_new' ho0 (Kd.R_lt (zr HO_4.out))) (Kd.R_lt (zr HO_6.out))) (Kd.R_lt (zr HO_215001.out))) (below_size zl)); replace HO_4 := zm (Kd.R_elder' (zr HO_4.out) (Kd.R_base ho0) hb); replace HO_6 := zm (Kd.R_elder' (zr HO_6.out) (Kd.R_base ho0) hb); replace HO_215001 := zm (Kd.R_elder' (zr HO_215001.out) (Kd.R_base ho0) hb); replace BK201 := zm (blk_below (zb BK201.out) hb); replace BK214 := zm (blk_below (zb BK214.out) hb); replace HB := zm (below_step zl hb); (try clear hb); (try clear hb2); (try clear hk); (try clear hi); (try clear ho0); obtain ⟨Ao58, co58, eo58⟩ := Kd.R_slice HO233.out; subst eo58) | ((with_reducible refine gate_callee (f := 17) rfl ?_); refine zg (some 56) Try.func17 #[.agg #[.int .i64 t230, .slice Ao58 t231.length co58]] ?_; (with_reducible refine (impl_NullsOfFact.calls kj16 t230 _ _ t231 t234 _ ?side1 ?side2 A48.out).mono ?_); (case side1 => repeat (first | exact (Kd.R_reads' HO233.out).2.2 | (with_reducible refine Kd.C_alloc ?_ _) | (with_reducible refine Kd.C_drewN ?_ _) | (with_reducible refine Kd.C_drew ?_))); (case side2 => exact (Kd.R_reads' HO233.out).2.1); rintro e w59 ⟨v235, rfl, ho0, hb⟩; refine ⟨_, rfl, ?_⟩; have HO236 := zm (Kd.R_lower (Kd.R_new' (Kd.R_new' (Kd.R_new' (Kd.R_new' ho0 (Kd.R_lt (zr HO_4.out))) (Kd.R_lt (zr HO_6.out))) (Kd.R_lt (zr HO_215001.out))) (Kd.R_lt (zr HO233.out))) (below_size zl)); replace HO_4 := zm (Kd.R_elder' (zr HO_4.out) (Kd.R_base ho0) hb); replace HO_6 := zm (Kd.R_elder' (zr HO_6.out) (Kd.R_base ho0) hb); replace HO_215001 := zm (Kd.R_elder' (zr HO_215001.out) (Kd.R_base ho0) hb); replace HO233 := zm (Kd.R_elder' (zr HO233.out) (Kd.R_base ho0) hb); replace BK201 := zm (blk_below (zb BK201.out) hb); replace BK214 := zm (blk_below (zb BK214.out) hb); replace HB := zm (below_step zl hb); (try clear hb); (try clear hb2); (try clear hk); (try clear hi); (try clear ho0); obtain ⟨Ao60, co60, eo60⟩ := Kd.R_slice HO236.out; subst eo60) | ((with_reducible refine gate_callee (f := 18) rfl ?_); refine zg (some 59) Try.func18 #[.slice Ao60 t234.length co60, .slice Ao33 t207.length co33] ?_; (with_reducible refine (laws_eqIntS.calls kj16 _ _ t234 _ _ t207 true _ ?side1 ?side2 ?side3 ?side4 A49.out).mono ?_); (case side1 => repeat (first | exact (Kd.R_reads' HO236.out).2.2 | (with_reducible refine Kd.C_alloc ?_ _) | (with_reducible refine Kd.C_drewN ?_ _) | (with_reducible refine Kd.C_drew ?_))); (case side2 => exact (Kd.R_reads' HO236.out).2.1); (case side3 => repeat (first | exact (Kd.R_reads' HO_4.out).2.2 | (with_reducible refine Kd.C_alloc ?_ _) | (with_reducible refine Kd.C_drewN ?_ _) | (with_reducible refine Kd.C_drew ?_))); (case side4 => exact (Kd.R_reads' HO_4.out).2.1); rintro e w' ⟨rfl, ⟨nd, rfl⟩⟩; refine ⟨_, rfl, ?_⟩) | ((with_reducible refine gate_callee (f := 22) rfl ?_); refine goesL_ (some 63) rfl rfl Try.func22 (by kernel_rfl) rfl #[.slice Ao32 t228.length co32, .int .i64 1] rfl (by (try simp only [List.map_toArray, List.map_cons, List.map_nil]); first | done | (rw [show t228.length = t215.length from (Kd.R_reads' HO_6.out).1.symm] <;> rfl) | rfl | (simp only [List.length_drop, List.length_take]; rfl)) ?_; (with_reducible refine (laws_heldIntS.calls kj16 _ _ t228 1 t238 _ ?side1 ?side2 A51.out).mono ?_); (case side1 => repeat (first | exact (Kd.R_reads' HO_6.out).2.2 | (with_reducible refine Kd.C_alloc ?_ _) | (with_reducible refine Kd.C_drewN ?_ _) | (with_reducible refine Kd.C_drew ?_))); (case side2 => rw [show t228.length = t215.length from (Kd.R_reads' HO_6.out).1.symm]; exact (Kd.R_reads' HO_6.out).2.1); rintro e w' ⟨rfl, ⟨nd, rfl⟩⟩; refine ⟨_, rfl, ?_⟩))
                        go_ret
                        exact ⟨by first | rfl | (simp [errW_none, errW_some] <;> rfl) | (simp [*, errW_none, errW_some] <;> rfl), by repeat (first | (with_reducible first | exact HB.out | apply below_alloc | apply pw_below_drewN | apply below_drew1 | refine below_set ?_ GE201.out | refine below_set ?_ GE214.out) | exact HB.out)⟩
                      · rw [if_neg c53] at H
                        have c53b0 : (t238 == t227) = false := beq_eq_false_iff_ne.mpr c53
                        have c53b1 : (t238 != t227) = true := bne_iff_ne.mpr c53
                        exact absurd H (by simp)
                  · replace c50 := Bool.eq_false_iff.mpr c50
                    subst c50
                    have H1 : (some false) = some true := by first | with_reducible rfl | (rw [if_neg (show ¬ (false = true) by decide)] at H; exact H)
                    clear H
                    have H := H1
                    clear H1
                    exact absurd H (by simp)
                · rw [if_neg c46] at H
                  have c46b0 : (t229 == t227) = false := beq_eq_false_iff_ne.mpr c46
                  have c46b1 : (t229 != t227) = true := bne_iff_ne.mpr c46
                  exact absurd H (by simp)
      · replace c15 := Bool.eq_false_iff.mpr c15
        subst c15
        have H1 : (some false) = some true := by first | with_reducible rfl | (rw [if_neg (show ¬ (false = true) by decide)] at H; exact H)
        clear H
        have H := H1
        clear H1
        exact absurd H (by simp)
    · replace c12 := Bool.eq_false_iff.mpr c12
      subst c12
      have H1 : (some false) = some true := by first | with_reducible rfl | (rw [if_neg (show ¬ (false = true) by decide)] at H; exact H)
      clear H
      have H := H1
      clear H1
      exact absurd H (by simp)

end Go.Proofs.Ytjphbdnfbkfgiaa.PFnExactNullsOfFact
