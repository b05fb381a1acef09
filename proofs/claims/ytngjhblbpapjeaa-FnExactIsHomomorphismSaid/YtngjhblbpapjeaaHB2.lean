/- Walks: facts, compared and placed. No condition. -/
import Derived.Test.YtngjhblbpapjeaaHB1
namespace Go.Proofs.Ytngjhblbpapjeaa.H
open Go Go.RowKit Go.Proofs.YtngjhblbpapjeaaW.PrintWords Go.Proofs.YtngjhblbpapjeaaW.PrintLast
open Go.Proofs.Ytngjhblbpapjeaa.Reg (On on_draw)
set_option maxHeartbeats 1000000
set_option maxRecDepth 100000
set_option linter.unusedVariables false
set_option linter.unusedSimpArgs false

theorem ints_step (a b : List Int) (k : Nat) (h1 : k < a.length) (h2 : k < b.length) : ints (a.drop k) (b.drop k) = if a[k] < b[k] then -1 else if b[k] < a[k] then 1 else ints (a.drop (k + 1)) (b.drop (k + 1)) := by
  rw [List.drop_eq_getElem_cons h1, List.drop_eq_getElem_cons h2]; rfl
theorem l4Ints_calls (w : World) (A B : Option Addr) (c d : Nat) (a b : List Int) (ha : Ints w A c a) (hb : Ints w B d b) : Calls Try.prog 75 #[.slice A a.length c, .slice B b.length d] w fun e w' => e = .returned (.int .i64 (ints a b)) ∧ On w w' := by
  have hma := ha.max
  have hmb := hb.max
  go_enter Try.func75, Try.ntmps75
  go_wp2
  go_loopw [5] (fun v wr => ∃ k : Nat, k ≤ a.length ∧ k ≤ b.length ∧ v = .int .i64 k ∧ Hid (ints (a.drop k) (b.drop k) = ints a b) ∧ On w wr) (fun v _ => a.length - (intOf v).toNat)
  case atStart => exact ⟨0, Nat.zero_le _, Nat.zero_le _, rfl, rfl, On.refl _⟩
  case round =>
    obtain ⟨k, hk1, hk2, rfl, hp, hB⟩ := hrel
    by_cases h1 : k < a.length
    · by_cases h2 : k < b.length
      · obtain ⟨ad, rfl, hx⟩ := (ha.on hB).at k h1
        obtain ⟨bd, rfl, hy⟩ := (hb.on hB).at k h2
        replace hp := Aside0.mk ((ints_step a b k h1 h2).symm.trans hp.out)
        by_cases h3 : a[k] < b[k]
        · have h3b : decide (a[k] < b[k]) = true := decide_eq_true h3
          clear h3
          go_wp2
          refine Reg.region [(0,.L),(1,.L),(2,.L),(3,.L),(4,.L),(5,.L),(6,.L),(7,.L),(8,.L)] [] (by kernel_rfl) (by kernel_rfl) ?_
          repeat first | refine sP ?_ | refine sS ?_ | refine sA ?_ | refine sL ?_ | refine sQ ?_ | refine sO ?_
          refine Reg.nil fun w2 hS => ?_
          go_wp2
          go_ret
          exact ⟨ret_int (by rw [← hp.out, if_pos (of_decide_eq_true h3b)]), hB.trans hS⟩
        · have h3b : decide (a[k] < b[k]) = false := decide_eq_false h3
          clear h3
          go_wp2
          refine Reg.region [(0,.L),(1,.L),(2,.L),(3,.L),(4,.L),(5,.L),(6,.L),(7,.L),(8,.L)] [] (by kernel_rfl) (by kernel_rfl) ?_
          repeat first | refine sP ?_ | refine sS ?_ | refine sA ?_ | refine sL ?_ | refine sQ ?_ | refine sO ?_
          refine Reg.nil fun w2 hS => ?_
          have hx' := (hS.eq _ (by rw [hx]; rfl)).trans hx
          have hy' := (hS.eq _ (by rw [hy]; rfl)).trans hy
          by_cases h4 : b[k] < a[k]
          · have h4b : decide (b[k] < a[k]) = true := decide_eq_true h4
            clear h4 hx hy
            go_wp2
            refine Reg.region [(0,.L),(1,.L),(2,.L),(3,.L),(4,.L),(5,.L),(6,.L),(7,.L),(8,.L)] [] (by kernel_rfl) (by kernel_rfl) ?_
            repeat first | refine sP ?_ | refine sS ?_ | refine sA ?_ | refine sL ?_ | refine sQ ?_ | refine sO ?_
            refine Reg.nil fun w3 hS3 => ?_
            go_wp2
            go_ret
            exact ⟨ret_int (by rw [← hp.out, if_neg (of_decide_eq_false h3b), if_pos (of_decide_eq_true h4b)]), (hB.trans hS).trans hS3⟩
          · have h4b : decide (b[k] < a[k]) = false := decide_eq_false h4
            clear h4 hx hy
            go_wp2
            refine Reg.region [(0,.L),(1,.L),(2,.L),(3,.L),(4,.L),(5,.L),(6,.L),(7,.L),(8,.L)] [] (by kernel_rfl) (by kernel_rfl) ?_
            repeat first | refine sP ?_ | refine sS ?_ | refine sA ?_ | refine sL ?_ | refine sQ ?_ | refine sO ?_
            refine Reg.nil fun w3 hS3 => ?_
            go_wp2
            go_roundw
            case rel => exact ⟨k + 1, by omega, by omega, by go_num, (by have := hp.out; rwa [if_neg (of_decide_eq_false h3b), if_neg (of_decide_eq_false h4b)] at this : _ = _), (hB.trans hS).trans hS3⟩
            case measure => simp [intOf]; omega
      · have hb0 : b.drop k = [] := List.drop_of_length_le (by omega)
        have hp' := Aside0.mk hp.out
        clear hp
        go_wp2
        go_ret
        exact ⟨ret_int (by rw [← hp'.out, hb0, List.drop_eq_getElem_cons h1]; rfl), hB⟩
    · have ha0 : a.drop k = [] := List.drop_of_length_le (by omega)
      have hp' := Aside0.mk hp.out
      clear hp
      by_cases h2 : k < b.length
      · go_wp2
        go_ret
        exact ⟨ret_int (by rw [← hp'.out, ha0, List.drop_eq_getElem_cons h2]; rfl), hB⟩
      · have hb0 : b.drop k = [] := List.drop_of_length_le (by omega)
        go_wp2
        go_ret
        exact ⟨ret_int (by rw [← hp'.out, ha0, hb0]; rfl), hB⟩
theorem CompareFacts_calls (w : World) (A0 c0 A1 c1) (f g : Fct) (h0 : Ints w A0 c0 f.2) (h1 : Ints w A1 c1 g.2) : Calls Try.prog 93 #[.agg #[.int .i64 f.1, .slice A0 f.2.length c0], .agg #[.int .i64 g.1, .slice A1 g.2.length c1]] w fun e w' => e = .returned (.int .i64 (cmpF f g)) ∧ On w w' := by
  by_cases h3 : f.1 < g.1
  · have h3b : decide (f.1 < g.1) = true := decide_eq_true h3
    go_enter Try.func93, Try.ntmps93
    go_wp2
    go_ret
    exact ⟨ret_int (by unfold cmpF; rw [if_pos (of_decide_eq_true h3b)]), On.alloc (On.alloc (On.refl _) _) _⟩
  · have h3b : decide (f.1 < g.1) = false := decide_eq_false h3
    by_cases h4 : g.1 < f.1
    · have h4b : decide (g.1 < f.1) = true := decide_eq_true h4
      go_enter Try.func93, Try.ntmps93
      go_wp2
      go_ret
      exact ⟨ret_int (by unfold cmpF; rw [if_neg (of_decide_eq_false h3b), if_pos (of_decide_eq_true h4b)]), On.alloc (On.alloc (On.refl _) _) _⟩
    · have h4b : decide (g.1 < f.1) = false := decide_eq_false h4
      go_enter Try.func93, Try.ntmps93
      go_wp2_with (go_at_call 75; refine (l4Ints_calls _ _ _ _ _ f.2 g.2 (h0.on (On.alloc (On.alloc (On.refl _) _) _)) (h1.on (On.alloc (On.alloc (On.refl _) _) _))).mono ?_; rintro e w1 ⟨rfl, hb1⟩)
      go_ret
      exact ⟨ret_int (by unfold cmpF; rw [if_neg (of_decide_eq_false h3b), if_neg (of_decide_eq_false h4b)]), (On.alloc (On.alloc (On.refl _) _) _).trans hb1⟩
end Go.Proofs.Ytngjhblbpapjeaa.H
