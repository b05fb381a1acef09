/- Walks: the program's own valid facts and their order. No condition. -/
import Derived.Test.YtngjhblbpapjeaaHC1
import Derived.Test.YtngjhblbpapjeaaHB2
namespace Go.Proofs.Ytngjhblbpapjeaa.H
open Go Go.RowKit Go.Proofs.YtngjhblbpapjeaaW.PrintWords Go.Proofs.YtngjhblbpapjeaaW.PrintLast
open Go.Proofs.Ytngjhblbpapjeaa.Reg (On on_draw)
set_option maxHeartbeats 1000000
set_option maxRecDepth 100000
set_option linter.unusedVariables false
set_option linter.unusedSimpArgs false

theorem badValue_calls (w : World) (v : Int) : Calls Try.prog 135 #[.int .i64 v] w fun e w' => e = .returned (.bool (!okVal v)) ∧ On w w' := by
  go_enter Try.func135, Try.ntmps135
  go_wp2_with (go_at_call 119; refine (iIsValidValue_calls _ _).mono ?_; rintro e w1 ⟨rfl, hb1⟩)
  go_ret
  exact ⟨rfl, hb1⟩
theorem IndexFuncV_calls (w : World) (A c) (vs : List Int) (h : Ints w A c vs) : Calls Try.prog 165 #[.slice A vs.length c, .func (.func 135) #[] #[]] w fun e w' => e = .returned (.int .i64 (idxFrom (fun v => !okVal v) vs 0)) ∧ On w w' := by
  have hmax := h.max
  go_enter Try.func165, Try.ntmps165
  go_wp2
  go_loopw [8] (fun v wr => ∃ k : Nat, k ≤ vs.length ∧ v = .int .i64 k ∧ Hid (idxFrom (fun v => !okVal v) (vs.drop k) k = idxFrom (fun v => !okVal v) vs 0) ∧ On w wr) (fun v _ => vs.length - (intOf v).toNat)
  case atStart => exact ⟨0, Nat.zero_le _, rfl, rfl, On.refl _⟩
  case round =>
    obtain ⟨k, hk, rfl, hp, hB⟩ := hrel
    by_cases hlt : k < vs.length
    · obtain ⟨ad, rfl, hx⟩ := (h.on hB).at k hlt
      have hst := Aside0.mk ((idxFrom_step (fun v => !okVal v) vs k hlt).symm.trans hp.out)
      clear hp
      cases hv : okVal vs[k] with
      | false =>
        have hv' := Aside0.mk hv
        clear hv
        go_wp2_with (go_at_call 135; refine (badValue_calls _ _).mono ?_; rintro e w3 ⟨rfl, hb3⟩; rw [hv'.out])
        go_ret
        exact ⟨ret_int (by have := hst.out; rw [hv'.out, if_pos (by rfl)] at this; exact this), hB.trans hb3⟩
      | true =>
        have hv' := Aside0.mk hv
        clear hv
        go_wp2_with (go_at_call 135; refine (badValue_calls _ _).mono ?_; rintro e w3 ⟨rfl, hb3⟩; rw [hv'.out])
        go_roundw
        case rel => exact ⟨k + 1, by omega, by go_num, (by have := hst.out; rwa [hv'.out, if_neg (by simp)] at this : _ = _), hB.trans hb3⟩
        case measure => simp [intOf]; omega
    · go_wp2
      go_ret
      exact ⟨ret_int (by rw [← hp.out, List.drop_of_length_le (by omega)]; rfl), hB⟩
theorem ContainsFuncV_calls (w : World) (A c) (vs : List Int) (h : Ints w A c vs) : Calls Try.prog 134 #[.slice A vs.length c, .func (.func 135) #[] #[]] w fun e w' => e = .returned (.bool (vs.any fun v => !okVal v)) ∧ On w w' := by
  go_enter Try.func134, Try.ntmps134
  go_wp2_with (go_at_call 165; refine (IndexFuncV_calls w A c vs h).mono ?_; rintro e w3 ⟨rfl, hb3⟩)
  go_ret
  exact ⟨ret_bool (idxFrom_any _ vs 0), hb3⟩
theorem iIsValidFact_calls (w : World) (A c) (rs : List Rel) (B d) (f : Fct) (h0 : Rels w A c rs) (h1 : Ints w B d f.2) : Calls Try.prog 108 #[.slice A rs.length c, .agg #[.int .i64 f.1, .slice B f.2.length d]] w fun e w' => e = .returned (.bool (okFact rs f)) ∧ On w w' := by
  have hm0 := h0.max
  have hm1 := h1.max
  have hw1 : IntKind.i64.wrap ((rs.length : Int) - 1) = (rs.length : Int) - 1 := IntWalk.i64_in _ (by omega)
  cases hr : okRels rs with
  | false =>
    have hr' := Aside0.mk hr
    clear hr
    go_enter Try.func108, Try.ntmps108
    go_wp2
    refine Reg.region [(0,.L),(1,.C),(2,.L),(3,.L),(4,.L),(5,.L),(6,.L),(7,.L),(8,.L),(9,.C),(10,.L),(11,.L),(12,.L),(13,.L),(14,.L),(15,.L),(16,.L),(17,.L),(18,.L),(19,.L),(20,.L),(21,.L),(22,.L),(23,.L)] [] (by kernel_rfl) (by kernel_rfl) ?_
    repeat first | refine sP ?_ | refine sS ?_ | refine sA ?_ | refine sL ?_ | refine sQ ?_ | refine sO ?_
    refine callC (.bool false) Try.func107 (fun w' hS => ?_) ?_
    focus exact (iAreValidRelations_calls w' A c rs (h0.on ((On.alloc (On.refl _) _).trans hS))).mono fun e w'' h => ⟨by rw [h.1, hr'.out], h.2⟩
    repeat first | refine sP ?_ | refine sS ?_ | refine sA ?_ | refine sL ?_ | refine sQ ?_ | refine sO ?_
    refine Reg.nil fun w2 hS => ?_
    go_wp2
    go_ret
    exact ⟨ret_bool (by simp [okFact, hr'.out]), (On.alloc (On.refl _) _).trans hS⟩
  | true =>
    have hr' := Aside0.mk hr
    clear hr
    cases hi : within f.1 0 ((rs.length : Int) - 1) with
    | false =>
      have hi' := Aside0.mk hi
      clear hi
      go_enter Try.func108, Try.ntmps108
      go_wp2
      refine Reg.region [(0,.L),(1,.C),(2,.L),(3,.L),(4,.L),(5,.L),(6,.L),(7,.L),(8,.L),(9,.C),(10,.L),(11,.L),(12,.L),(13,.L),(14,.L),(15,.L),(16,.L),(17,.L),(18,.L),(19,.L),(20,.L),(21,.L),(22,.L),(23,.L)] [] (by kernel_rfl) (by kernel_rfl) ?_
      repeat first | refine sP ?_ | refine sS ?_ | refine sA ?_ | refine sL ?_ | refine sQ ?_ | refine sO ?_
      refine callC (.bool true) Try.func107 (fun w' hS => ?_) ?_
      focus exact (iAreValidRelations_calls w' A c rs (h0.on ((On.alloc (On.refl _) _).trans hS))).mono fun e w'' h => ⟨by rw [h.1, hr'.out], h.2⟩
      repeat first | refine sP ?_ | refine sS ?_ | refine sA ?_ | refine sL ?_ | refine sQ ?_ | refine sO ?_
      refine callC (.bool false) Try.func118 (fun w' hS => ?_) ?_
      focus exact (within_calls w' _ _ _).mono fun e w'' h => ⟨by rw [h.1, hi'.out], h.2⟩
      repeat first | refine sP ?_ | refine sS ?_ | refine sA ?_ | refine sL ?_ | refine sQ ?_ | refine sO ?_
      refine Reg.nil fun w2 hS => ?_
      go_wp2
      go_ret
      exact ⟨ret_bool (by have := hi'.out; simp [within] at this; simp [okFact]; intros; omega), (On.alloc (On.refl _) _).trans hS⟩
    | true =>
      have hi' := Aside0.mk hi
      have hi2 : 0 ≤ f.1 ∧ f.1 ≤ (rs.length : Int) - 1 := by simpa [within] using hi
      clear hi
      rcases f with ⟨r, vs⟩
      obtain ⟨m, rfl⟩ : ∃ m : Nat, r = m := ⟨r.toNat, by omega⟩
      have hm : m < rs.length := by omega
      have har : arity rs (m : Int) = rs[m].2.1 := by simp [arity, hm]
      clear hi2
      dsimp only at *
      obtain ⟨ad, rfl, hx0, hx1, hx2⟩ := h0.at m hm
      have hbx := Aside0.mk (On.alloc (On.refl w) (.cells #[.int .i64 m, .slice B vs.length d] 55))
      have hx1' := (hbx.out.eq _ (by rw [hx1]; rfl)).trans hx1
      clear hx0 hx1 hx2
      cases hl : decide ((vs.length : Int) = rs[m].2.1) with
      | false =>
        have hl1 : ((vs.length : Int) == rs[m].2.1) = false := hl
        have hl2 : ((vs.length : Int) != rs[m].2.1) = true := by simp [bne, hl1]
        have hl' := Aside0.mk hl
        clear hl
        go_enter Try.func108, Try.ntmps108
        go_wp2
        refine Reg.region [(0,.L),(1,.C),(2,.L),(3,.L),(4,.L),(5,.L),(6,.L),(7,.L),(8,.L),(9,.C),(10,.L),(11,.L),(12,.L),(13,.L),(14,.L),(15,.L),(16,.L),(17,.L),(18,.L),(19,.L),(20,.L),(21,.L),(22,.L),(23,.L)] [] (by kernel_rfl) (by kernel_rfl) ?_
        repeat first | refine sP ?_ | refine sS ?_ | refine sA ?_ | refine sL ?_ | refine sQ ?_ | refine sO ?_
        refine callC (.bool true) Try.func107 (fun w' hS => ?_) ?_
        focus exact (iAreValidRelations_calls w' (some ad) c rs (h0.on (hbx.out.trans hS))).mono fun e w'' h => ⟨by rw [h.1, hr'.out], h.2⟩
        repeat first | refine sP ?_ | refine sS ?_ | refine sA ?_ | refine sL ?_ | refine sQ ?_ | refine sO ?_
        refine callC (.bool true) Try.func118 (fun w' hS => ?_) ?_
        focus exact (within_calls w' _ _ _).mono fun e w'' h => ⟨by rw [h.1, hi'.out], h.2⟩
        repeat first | refine sP ?_ | refine sS ?_ | refine sA ?_ | refine sL ?_ | refine sQ ?_ | refine sO ?_
        refine Reg.nil fun w2 hS => ?_
        go_wp2
        go_ret
        have e1 : decide ((vs.length : Int) = arity rs (m : Int)) = false := by rw [har]; exact hl'.out
        exact ⟨ret_bool (by symm; unfold okFact; dsimp only; rw [e1, Bool.and_false, Bool.false_and]), hbx.out.trans hS⟩
      | true =>
        have hl0 : (vs.length : Int) = rs[m].2.1 := of_decide_eq_true hl
        have hl1 : ((vs.length : Int) == rs[m].2.1) = true := by simpa using hl0
        have hl2 : ((vs.length : Int) != rs[m].2.1) = false := by simp [bne, hl1]
        have hl' := Aside0.mk hl
        clear hl hl0
        go_enter Try.func108, Try.ntmps108
        go_wp2
        refine Reg.region [(0,.L),(1,.C),(2,.L),(3,.L),(4,.L),(5,.L),(6,.L),(7,.L),(8,.L),(9,.C),(10,.L),(11,.L),(12,.L),(13,.L),(14,.L),(15,.L),(16,.L),(17,.L),(18,.L),(19,.L),(20,.L),(21,.L),(22,.L),(23,.L)] [] (by kernel_rfl) (by kernel_rfl) ?_
        repeat first | refine sP ?_ | refine sS ?_ | refine sA ?_ | refine sL ?_ | refine sQ ?_ | refine sO ?_
        refine callC (.bool true) Try.func107 (fun w' hS => ?_) ?_
        focus exact (iAreValidRelations_calls w' (some ad) c rs (h0.on (hbx.out.trans hS))).mono fun e w'' h => ⟨by rw [h.1, hr'.out], h.2⟩
        repeat first | refine sP ?_ | refine sS ?_ | refine sA ?_ | refine sL ?_ | refine sQ ?_ | refine sO ?_
        refine callC (.bool true) Try.func118 (fun w' hS => ?_) ?_
        focus exact (within_calls w' _ _ _).mono fun e w'' h => ⟨by rw [h.1, hi'.out], h.2⟩
        repeat first | refine sP ?_ | refine sS ?_ | refine sA ?_ | refine sL ?_ | refine sQ ?_ | refine sO ?_
        refine Reg.nil fun w2 hS => ?_
        clear hx1'
        have hL2 := Loc.on hS (loc1 w #[.int .i64 m, .slice B vs.length d] 55)
        have hc0 := blk_cell hL2.1
        have hB2 := Aside0.mk (hbx.out.trans hS)
        cases hv : vs.any (fun v => !okVal v) with
        | true =>
          have hv' := Aside0.mk hv
          clear hv
          go_wp2_with (go_at_call 134; refine (ContainsFuncV_calls w2 B d vs (h1.on hB2.out)).mono ?_; rintro e w3 ⟨rfl, hb3⟩; rw [hv'.out])
          go_ret
          exact ⟨ret_bool (by have : vs.all okVal = false := by have := hv'.out; rw [List.any_eq_not_all_not] at this; simpa using this
                              simp only [okFact, this, Bool.and_false]), hB2.out.trans hb3⟩
        | false =>
          have hv' := Aside0.mk hv
          clear hv
          go_wp2_with (go_at_call 134; refine (ContainsFuncV_calls w2 B d vs (h1.on hB2.out)).mono ?_; rintro e w3 ⟨rfl, hb3⟩; rw [hv'.out])
          go_ret
          exact ⟨ret_bool (by have : vs.all okVal = true := by have := hv'.out; rw [List.any_eq_not_all_not] at this; simpa using this
                              have hl3 := beq_iff_eq.1 hl1; simp [okFact, this, hr'.out, har, hm, hl3]), hB2.out.trans hb3⟩
theorem isNaN_calls (w : World) (v : Int) : Calls Try.prog 166 #[.int .i64 v] w fun e w' => e = .returned (.bool false) ∧ On w w' := by
  go_enter Try.func166, Try.ntmps166
  go_wp2
  go_ret
  exact ⟨by simp, On.refl _⟩
theorem cmpCompare_calls (w : World) (a b : Int) : Calls Try.prog 137 #[.int .i64 a, .int .i64 b] w fun e w' => e = .returned (.int .i64 (cmpI a b)) ∧ On w w' := by
  by_cases h1 : a < b
  · have h1b : decide (a < b) = true := decide_eq_true h1
    go_enter Try.func137, Try.ntmps137
    go_wp2_with (first | (go_at_call 166; refine (isNaN_calls w _).mono ?_; rintro e w1 ⟨rfl, hb1⟩) | (go_at_call 166; refine (isNaN_calls w1 _).mono ?_; rintro e w2 ⟨rfl, hb2⟩))
    go_ret
    exact ⟨ret_int (by unfold cmpI; rw [if_pos (of_decide_eq_true h1b)]), hb1.trans hb2⟩
  · have h1b : decide (a < b) = false := decide_eq_false h1
    by_cases h2 : b < a
    · have h2b : decide (b < a) = true := decide_eq_true h2
      go_enter Try.func137, Try.ntmps137
      go_wp2_with (first | (go_at_call 166; refine (isNaN_calls w _).mono ?_; rintro e w1 ⟨rfl, hb1⟩) | (go_at_call 166; refine (isNaN_calls w1 _).mono ?_; rintro e w2 ⟨rfl, hb2⟩))
      go_ret
      exact ⟨ret_int (by unfold cmpI; rw [if_neg (of_decide_eq_false h1b), if_pos (of_decide_eq_true h2b)]), hb1.trans hb2⟩
    · have h2b : decide (b < a) = false := decide_eq_false h2
      go_enter Try.func137, Try.ntmps137
      go_wp2_with (first | (go_at_call 166; refine (isNaN_calls w _).mono ?_; rintro e w1 ⟨rfl, hb1⟩) | (go_at_call 166; refine (isNaN_calls w1 _).mono ?_; rintro e w2 ⟨rfl, hb2⟩))
      go_ret
      exact ⟨ret_int (by unfold cmpI; rw [if_neg (of_decide_eq_false h1b), if_neg (of_decide_eq_false h2b)]), hb1.trans hb2⟩
theorem cmpI_bd (a b : Int) : -1 ≤ cmpI a b ∧ cmpI a b ≤ 1 := by unfold cmpI; split <;> (try split) <;> omega
theorem ints_nil (a : List Int) : ints a [] = if a = [] then 0 else 1 := by cases a <;> rfl
theorem ints_stepI (a b : List Int) (k : Nat) (h1 : k < a.length) (h2 : k < b.length) : ints (a.drop k) (b.drop k) = if cmpI a[k] b[k] = 0 then ints (a.drop (k + 1)) (b.drop (k + 1)) else cmpI a[k] b[k] := by
  rw [ints_step a b k h1 h2]; unfold cmpI; split
  · simp
  · split <;> simp
theorem slicesCompare_calls (w : World) (A B : Option Addr) (c d : Nat) (a b : List Int) (ha : Ints w A c a) (hb : Ints w B d b) : Calls Try.prog 138 #[.slice A a.length c, .slice B b.length d] w fun e w' => e = .returned (.int .i64 (ints a b)) ∧ On w w' := by
  have hma := ha.max
  have hmb := hb.max
  go_enter Try.func138, Try.ntmps138
  go_wp2
  go_loopw [11] (fun v wr => ∃ k : Nat, k ≤ a.length ∧ k ≤ b.length ∧ v = .int .i64 k ∧ Hid (ints (a.drop k) (b.drop k) = ints a b) ∧ On w wr) (fun v _ => a.length - (intOf v).toNat)
  case atStart => exact ⟨0, Nat.zero_le _, Nat.zero_le _, rfl, rfl, On.refl _⟩
  case round =>
    obtain ⟨k, hk1, hk2, rfl, hp, hB⟩ := hrel
    by_cases h1 : k < a.length
    · obtain ⟨ad, rfl, hx⟩ := (ha.on hB).at k h1
      by_cases h2 : k < b.length
      · obtain ⟨bd, rfl, hy⟩ := (hb.on hB).at k h2
        have h2n : decide (b.length ≤ k) = false := decide_eq_false (by omega)
        have hst := Aside0.mk ((ints_stepI a b k h1 h2).symm.trans hp.out)
        clear hp
        by_cases h3 : cmpI a[k] b[k] = 0
        · have h3' := Aside0.mk h3
          have h3b : (cmpI a[k] b[k] != 0) = false := by simp [h3]
          clear h3
          go_wp2_with (go_at_call 137; refine (cmpCompare_calls _ _ _).mono ?_; rintro e w3 ⟨rfl, hb3⟩)
          go_roundw
          case rel => exact ⟨k + 1, by omega, by omega, by go_num, (by have := hst.out; rwa [if_pos h3'.out] at this : _ = _), hB.trans hb3⟩
          case measure => simp [intOf]; omega
        · have h3' := Aside0.mk h3
          have h3b : (cmpI a[k] b[k] != 0) = true := by simp [h3]
          clear h3
          go_wp2_with (go_at_call 137; refine (cmpCompare_calls _ _ _).mono ?_; rintro e w3 ⟨rfl, hb3⟩)
          go_ret
          exact ⟨ret_int (by have := hst.out; rwa [if_neg h3'.out] at this), hB.trans hb3⟩
      · have hb0 : b.drop k = [] := List.drop_of_length_le (by omega)
        have h2n : decide (b.length ≤ k) = true := decide_eq_true (by omega)
        have hp' := Aside0.mk hp.out
        clear hp
        go_wp2
        go_ret
        exact ⟨ret_int (by rw [← hp'.out, hb0, List.drop_eq_getElem_cons h1]; rfl), hB⟩
    · have ha0 : a.drop k = [] := List.drop_of_length_le (by omega)
      have hp' := Aside0.mk hp.out
      clear hp
      by_cases h2 : k < b.length
      · have h4 : a.length < b.length := by omega
        go_wp2
        go_ret
        exact ⟨ret_int (by rw [← hp'.out, ha0, List.drop_eq_getElem_cons h2]; rfl), hB⟩
      · have hb0 : b.drop k = [] := List.drop_of_length_le (by omega)
        have h4 : ¬ a.length < b.length := by omega
        go_wp2
        go_ret
        exact ⟨ret_int (by rw [← hp'.out, ha0, hb0]; rfl), hB⟩
/-- The first that is not 0. -/
def orFrom : List Int → Int
  | [] => 0
  | x :: l => if x = 0 then orFrom l else x
theorem orFrom_step (l : List Int) (k : Nat) (h : k < l.length) : orFrom (l.drop k) = if l[k] = 0 then orFrom (l.drop (k + 1)) else l[k] := by
  rw [List.drop_eq_getElem_cons h]; rfl
theorem cmpOr_calls (w : World) (A c) (l : List Int) (h : Ints w A c l) : Calls Try.prog 136 #[.slice A l.length c] w fun e w' => e = .returned (.int .i64 (orFrom l)) ∧ On w w' := by
  have hmax := h.max
  go_enter Try.func136, Try.ntmps136
  go_wp2
  go_loop [8] (fun v => ∃ k : Nat, k ≤ l.length ∧ v = .int .i64 k ∧ Hid (orFrom (l.drop k) = orFrom l)) (fun v => l.length - (intOf v).toNat)
  case atStart => exact ⟨0, Nat.zero_le _, rfl, rfl⟩
  case round =>
    obtain ⟨k, hk, rfl, hp⟩ := hrel
    by_cases hlt : k < l.length
    · obtain ⟨ad, rfl, hx⟩ := h.at k hlt
      have hst := Aside0.mk ((orFrom_step l k hlt).symm.trans hp.out)
      clear hp
      by_cases h3 : l[k] = 0
      · have h3' := Aside0.mk h3
        have h3b : (l[k] != 0) = false := by simp [h3]
        clear h3
        go_wp2
        go_round
        case rel => exact ⟨k + 1, by omega, by go_num, (by have := hst.out; rwa [if_pos h3'.out] at this : _ = _)⟩
        case measure => simp [intOf]; omega
      · have h3' := Aside0.mk h3
        have h3b : (l[k] != 0) = true := by simp [h3]
        clear h3
        go_wp2
        go_ret
        exact ⟨ret_int (by have := hst.out; rwa [if_neg h3'.out] at this), On.refl _⟩
    · go_wp2
      go_ret
      exact ⟨ret_int (by rw [← hp.out, List.drop_of_length_le (by omega)]; rfl), On.refl _⟩
theorem ints2 (w : World) (a b : Int) : Ints (w.alloc (.cells #[.int .i64 a, .int .i64 b] 3)) (some ⟨w.heap.size, 0, none⟩) 2 [a, b] ↔ InR [a, b] := by
  refine ⟨fun h => h.2.2, fun h => ⟨Nat.le_refl _, ⟨rfl, by simp, fun _ => ⟨_, rfl, fun j p hj => ?_⟩⟩, h⟩⟩
  refine ⟨[.int .i64 p], rfl, rfl, fun i u hu => ?_⟩
  have hc := blk_cell (loc_new w #[.int .i64 a, .int .i64 b] 3)
  obtain ⟨rfl, rfl⟩ : i = 0 ∧ u = .int .i64 p := by
    cases i with
    | zero => simp at hu; exact ⟨rfl, hu.symm⟩
    | succ i => simp at hu
  rw [add_plain, show j * kInts.sz + 0 = j from by show j * 1 + 0 = j; omega, hc]
  match j, hj with
  | 0, hj => simp at hj; subst hj; rfl
  | 1, hj => simp at hj; subst hj; rfl
  | j + 2, hj => simp at hj
theorem ints_bd (a b : List Int) : -1 ≤ ints a b ∧ ints a b ≤ 1 := by
  induction a generalizing b with
  | nil => cases b <;> simp [ints]
  | cons x a ih =>
    cases b with
    | nil => simp [ints]
    | cons y b =>
      unfold ints
      split
      · omega
      · split
        · omega
        · exact ih b
theorem iCompareFacts_calls (w : World) (A0 c0 A1 c1) (f g : Fct) (h0 : Ints w A0 c0 f.2) (h1 : Ints w A1 c1 g.2) : Calls Try.prog 109 #[.agg #[.int .i64 f.1, .slice A0 f.2.length c0], .agg #[.int .i64 g.1, .slice A1 g.2.length c1]] w fun e w' => e = .returned (.int .i64 (cmpF f g)) ∧ On w w' := by
  have hb0 := Aside0.mk (On.alloc (On.alloc (On.refl w) (.cells #[.int .i64 f.1, .slice A0 f.2.length c0] 55)) (.cells #[.int .i64 g.1, .slice A1 g.2.length c1] 55))
  go_enter Try.func109, Try.ntmps109
  go_wp2
  refine Reg.region [(0,.L),(1,.L),(2,.L),(3,.L),(4,.C),(5,.L),(6,.L),(7,.L),(8,.L),(9,.C)] [10,11,12] (by kernel_rfl) (by kernel_rfl) ?_
  repeat first | refine sP ?_ | refine sS ?_ | refine sA ?_ | refine sL ?_ | refine sQ ?_ | refine sO ?_
  refine callC (.int .i64 (cmpI f.1 g.1)) Try.func137 (fun w' hS => ?_) ?_
  focus exact cmpCompare_calls w' _ _
  repeat first | refine sP ?_ | refine sS ?_ | refine sA ?_ | refine sL ?_ | refine sQ ?_ | refine sO ?_
  refine callC (.int .i64 (ints f.2 g.2)) Try.func138 (fun w' hS => ?_) ?_
  focus exact slicesCompare_calls w' _ _ _ _ f.2 g.2 (h0.on (hb0.out.trans hS)) (h1.on (hb0.out.trans hS))
  repeat first | refine sP ?_ | refine sS ?_ | refine sA ?_ | refine sL ?_ | refine sQ ?_ | refine sO ?_
  refine Reg.tail_ fun w2 hS => ?_
  have hc := cmpI_bd f.1 g.1
  have hi := ints_bd f.2 g.2
  have hr := Aside0.mk ((ints2 w2 (cmpI f.1 g.1) (ints f.2 g.2)).2 (fun x hx => by simp at hx; rcases hx with rfl | rfl <;> omega))
  clear hc hi
  go_wp2_with (go_at_call 136; refine (cmpOr_calls _ _ _ _ hr.out).mono ?_; rintro e w3 ⟨rfl, hb3⟩)
  go_ret
  refine ⟨ret_int ?_, (hb0.out.trans hS).trans ((On.alloc (On.refl _) _).trans hb3)⟩
  rw [cmpF_or]
  simp only [orFrom]
  by_cases h3 : cmpI f.1 g.1 = 0
  · simp only [h3, if_pos, ne_eq, not_true, if_false]
    by_cases h4 : ints f.2 g.2 = 0
    · rw [if_pos h4, h4]
    · rw [if_neg h4]
  · simp [h3]
end Go.Proofs.Ytngjhblbpapjeaa.H
