/- Walks and plain laws for the law FnInstanceFormat, part 4 of 7: the texts HC2, HC3, HF7, HF8, HG23, HG4, HG4s, HG6, HG7, HG8 in one. No condition. -/
import Derived.Lib.IndexBytes
import Derived.Test.YtgemaohdlibboaaGreatDoorZFnInstanceFormat3
/- Walks: the program's own valid facts and their order. No condition. -/
namespace Go.Proofs.YtgemaohdlibboaaGreatDoor.H
open Go Go.RowKit Go.Proofs.YtgemaohdlibboaaGreatDoorW.PrintWords Go.Proofs.YtgemaohdlibboaaGreatDoorW.PrintLast
open Go.Proofs.YtgemaohdlibboaaGreatDoor.Reg (On on_draw)
set_option maxHeartbeats 1000000
set_option maxRecDepth 100000
set_option linter.unusedVariables false
set_option linter.unusedSimpArgs false

theorem badValue_calls (w : World) (v : Int) : Calls Tryz.prog 124 #[.int .i64 v] w fun e w' => e = .returned (.bool (!okVal v)) ∧ On w w' := by
  go_enter Tryz.func124, Tryz.ntmps124
  go_wp2_with (go_at_call 92; refine (iIsValidValue_calls _ _).mono ?_; rintro e w1 ⟨rfl, hb1⟩)
  go_ret
  exact ⟨rfl, hb1⟩
theorem IndexFuncV_calls (w : World) (A c) (vs : List Int) (h : Ints w A c vs) : Calls Tryz.prog 172 #[.slice A vs.length c, .func (.func 124) #[] #[]] w fun e w' => e = .returned (.int .i64 (idxFrom (fun v => !okVal v) vs 0)) ∧ On w w' := by
  have hmax := h.max
  go_enter Tryz.func172, Tryz.ntmps172
  go_wp2
  go_loopw [8] (fun v wr => ∃ k : Nat, k ≤ vs.length ∧ v = .int .i64 k ∧ Hid (idxFrom (fun v => !okVal v) (vs.drop k) k = idxFrom (fun v => !okVal v) vs 0) ∧ On w wr) (fun v _ => vs.length - (intOf v).toNat)
  case atStart => exact ⟨0, Nat.zero_le _, rfl, rfl, On.refl _⟩
  case round =>
    obtain ⟨k, hk, rfl, hp, hB⟩ := hrel
    by_cases hlt : k < vs.length
    · obtain ⟨ad, rfl, hx⟩ := (h.on hB).at k hlt
      have hst := Aside0.mk ((idxFrom_step (fun v => !okVal v) vs k hlt).symm.trans hp.out)
      clear hp
      cases hv : okVal vs[k] with
      | false =>
        have hv' := Aside0.mk hv
        clear hv
        go_wp2_with (go_at_call 124; refine (badValue_calls _ _).mono ?_; rintro e w3 ⟨rfl, hb3⟩; rw [hv'.out])
        go_ret
        exact ⟨ret_int (by have := hst.out; rw [hv'.out, if_pos (by rfl)] at this; exact this), hB.trans hb3⟩
      | true =>
        have hv' := Aside0.mk hv
        clear hv
        go_wp2_with (go_at_call 124; refine (badValue_calls _ _).mono ?_; rintro e w3 ⟨rfl, hb3⟩; rw [hv'.out])
        go_roundw
        case rel => exact ⟨k + 1, by omega, by go_num, (by have := hst.out; rwa [hv'.out, if_neg (by simp)] at this : _ = _), hB.trans hb3⟩
        case measure => simp [intOf]; omega
    · go_wp2
      go_ret
      exact ⟨ret_int (by rw [← hp.out, List.drop_of_length_le (by omega)]; rfl), hB⟩
theorem ContainsFuncV_calls (w : World) (A c) (vs : List Int) (h : Ints w A c vs) : Calls Tryz.prog 123 #[.slice A vs.length c, .func (.func 124) #[] #[]] w fun e w' => e = .returned (.bool (vs.any fun v => !okVal v)) ∧ On w w' := by
  go_enter Tryz.func123, Tryz.ntmps123
  go_wp2_with (go_at_call 172; refine (IndexFuncV_calls w A c vs h).mono ?_; rintro e w3 ⟨rfl, hb3⟩)
  go_ret
  exact ⟨ret_bool (idxFrom_any _ vs 0), hb3⟩
theorem iIsValidFact_calls (w : World) (A c) (rs : List Rel) (B d) (f : Fct) (h0 : Rels w A c rs) (h1 : Ints w B d f.2) : Calls Tryz.prog 50 #[.slice A rs.length c, .agg #[.int .i64 f.1, .slice B f.2.length d]] w fun e w' => e = .returned (.bool (okFact rs f)) ∧ On w w' := by
  have hm0 := h0.max
  have hm1 := h1.max
  have hw1 : IntKind.i64.wrap ((rs.length : Int) - 1) = (rs.length : Int) - 1 := IntWalk.i64_in _ (by omega)
  cases hr : okRels rs with
  | false =>
    have hr' := Aside0.mk hr
    clear hr
    go_enter Tryz.func50, Tryz.ntmps50
    go_wp2
    refine Reg.region [(0,.L),(1,.C),(2,.L),(3,.L),(4,.L),(5,.L),(6,.L),(7,.L),(8,.L),(9,.C),(10,.L),(11,.L),(12,.L),(13,.L),(14,.L),(15,.L),(16,.L),(17,.L),(18,.L),(19,.L),(20,.L),(21,.L),(22,.L),(23,.L)] [] (by kernel_rfl) (by kernel_rfl) ?_
    repeat first | refine sP ?_ | refine sS ?_ | refine sA ?_ | refine sL ?_ | refine sQ ?_ | refine sO ?_
    refine callC (.bool false) Tryz.func49 (fun w' hS => ?_) ?_
    focus exact (iAreValidRelations_calls w' A c rs (h0.on ((On.alloc (On.refl _) _).trans hS))).mono fun e w'' h => ⟨by rw [h.1, hr'.out], h.2⟩
    repeat first | refine sP ?_ | refine sS ?_ | refine sA ?_ | refine sL ?_ | refine sQ ?_ | refine sO ?_
    refine Reg.nil fun w2 hS => ?_
    go_wp2
    go_ret
    exact ⟨ret_bool (by simp [okFact, hr'.out]), (On.alloc (On.refl _) _).trans hS⟩
  | true =>
    have hr' := Aside0.mk hr
    clear hr
    cases hi : within f.1 0 ((rs.length : Int) - 1) with
    | false =>
      have hi' := Aside0.mk hi
      clear hi
      go_enter Tryz.func50, Tryz.ntmps50
      go_wp2
      refine Reg.region [(0,.L),(1,.C),(2,.L),(3,.L),(4,.L),(5,.L),(6,.L),(7,.L),(8,.L),(9,.C),(10,.L),(11,.L),(12,.L),(13,.L),(14,.L),(15,.L),(16,.L),(17,.L),(18,.L),(19,.L),(20,.L),(21,.L),(22,.L),(23,.L)] [] (by kernel_rfl) (by kernel_rfl) ?_
      repeat first | refine sP ?_ | refine sS ?_ | refine sA ?_ | refine sL ?_ | refine sQ ?_ | refine sO ?_
      refine callC (.bool true) Tryz.func49 (fun w' hS => ?_) ?_
      focus exact (iAreValidRelations_calls w' A c rs (h0.on ((On.alloc (On.refl _) _).trans hS))).mono fun e w'' h => ⟨by rw [h.1, hr'.out], h.2⟩
      repeat first | refine sP ?_ | refine sS ?_ | refine sA ?_ | refine sL ?_ | refine sQ ?_ | refine sO ?_
      refine callC (.bool false) Tryz.func91 (fun w' hS => ?_) ?_
      focus exact (within_calls w' _ _ _).mono fun e w'' h => ⟨by rw [h.1, hi'.out], h.2⟩
      repeat first | refine sP ?_ | refine sS ?_ | refine sA ?_ | refine sL ?_ | refine sQ ?_ | refine sO ?_
      refine Reg.nil fun w2 hS => ?_
      go_wp2
      go_ret
      exact ⟨ret_bool (by have := hi'.out; simp [within] at this; simp [okFact]; intros; omega), (On.alloc (On.refl _) _).trans hS⟩
    | true =>
      have hi' := Aside0.mk hi
      have hi2 : 0 ≤ f.1 ∧ f.1 ≤ (rs.length : Int) - 1 := by simpa [within] using hi
      clear hi
      rcases f with ⟨r, vs⟩
      obtain ⟨m, rfl⟩ : ∃ m : Nat, r = m := ⟨r.toNat, by omega⟩
      have hm : m < rs.length := by omega
      have har : arity rs (m : Int) = rs[m].2.1 := by simp [arity, hm]
      clear hi2
      dsimp only at *
      obtain ⟨ad, rfl, hx0, hx1, hx2⟩ := h0.at m hm
      have hbx := Aside0.mk (On.alloc (On.refl w) (.cells #[.int .i64 m, .slice B vs.length d] 60))
      have hx1' := (hbx.out.eq _ (by rw [hx1]; rfl)).trans hx1
      clear hx0 hx1 hx2
      cases hl : decide ((vs.length : Int) = rs[m].2.1) with
      | false =>
        have hl1 : ((vs.length : Int) == rs[m].2.1) = false := hl
        have hl2 : ((vs.length : Int) != rs[m].2.1) = true := by simp [bne, hl1]
        have hl' := Aside0.mk hl
        clear hl
        go_enter Tryz.func50, Tryz.ntmps50
        go_wp2
        refine Reg.region [(0,.L),(1,.C),(2,.L),(3,.L),(4,.L),(5,.L),(6,.L),(7,.L),(8,.L),(9,.C),(10,.L),(11,.L),(12,.L),(13,.L),(14,.L),(15,.L),(16,.L),(17,.L),(18,.L),(19,.L),(20,.L),(21,.L),(22,.L),(23,.L)] [] (by kernel_rfl) (by kernel_rfl) ?_
        repeat first | refine sP ?_ | refine sS ?_ | refine sA ?_ | refine sL ?_ | refine sQ ?_ | refine sO ?_
        refine callC (.bool true) Tryz.func49 (fun w' hS => ?_) ?_
        focus exact (iAreValidRelations_calls w' (some ad) c rs (h0.on (hbx.out.trans hS))).mono fun e w'' h => ⟨by rw [h.1, hr'.out], h.2⟩
        repeat first | refine sP ?_ | refine sS ?_ | refine sA ?_ | refine sL ?_ | refine sQ ?_ | refine sO ?_
        refine callC (.bool true) Tryz.func91 (fun w' hS => ?_) ?_
        focus exact (within_calls w' _ _ _).mono fun e w'' h => ⟨by rw [h.1, hi'.out], h.2⟩
        repeat first | refine sP ?_ | refine sS ?_ | refine sA ?_ | refine sL ?_ | refine sQ ?_ | refine sO ?_
        refine Reg.nil fun w2 hS => ?_
        go_wp2
        go_ret
        have e1 : decide ((vs.length : Int) = arity rs (m : Int)) = false := by rw [har]; exact hl'.out
        exact ⟨ret_bool (by symm; unfold okFact; dsimp only; rw [e1, Bool.and_false, Bool.false_and]), hbx.out.trans hS⟩
      | true =>
        have hl0 : (vs.length : Int) = rs[m].2.1 := of_decide_eq_true hl
        have hl1 : ((vs.length : Int) == rs[m].2.1) = true := by simpa using hl0
        have hl2 : ((vs.length : Int) != rs[m].2.1) = false := by simp [bne, hl1]
        have hl' := Aside0.mk hl
        clear hl hl0
        go_enter Tryz.func50, Tryz.ntmps50
        go_wp2
        refine Reg.region [(0,.L),(1,.C),(2,.L),(3,.L),(4,.L),(5,.L),(6,.L),(7,.L),(8,.L),(9,.C),(10,.L),(11,.L),(12,.L),(13,.L),(14,.L),(15,.L),(16,.L),(17,.L),(18,.L),(19,.L),(20,.L),(21,.L),(22,.L),(23,.L)] [] (by kernel_rfl) (by kernel_rfl) ?_
        repeat first | refine sP ?_ | refine sS ?_ | refine sA ?_ | refine sL ?_ | refine sQ ?_ | refine sO ?_
        refine callC (.bool true) Tryz.func49 (fun w' hS => ?_) ?_
        focus exact (iAreValidRelations_calls w' (some ad) c rs (h0.on (hbx.out.trans hS))).mono fun e w'' h => ⟨by rw [h.1, hr'.out], h.2⟩
        repeat first | refine sP ?_ | refine sS ?_ | refine sA ?_ | refine sL ?_ | refine sQ ?_ | refine sO ?_
        refine callC (.bool true) Tryz.func91 (fun w' hS => ?_) ?_
        focus exact (within_calls w' _ _ _).mono fun e w'' h => ⟨by rw [h.1, hi'.out], h.2⟩
        repeat first | refine sP ?_ | refine sS ?_ | refine sA ?_ | refine sL ?_ | refine sQ ?_ | refine sO ?_
        refine Reg.nil fun w2 hS => ?_
        clear hx1'
        have hL2 := Loc.on hS (loc1 w #[.int .i64 m, .slice B vs.length d] 60)
        have hc0 := blk_cell hL2.1
        have hB2 := Aside0.mk (hbx.out.trans hS)
        cases hv : vs.any (fun v => !okVal v) with
        | true =>
          have hv' := Aside0.mk hv
          clear hv
          go_wp2_with (go_at_call 123; refine (ContainsFuncV_calls w2 B d vs (h1.on hB2.out)).mono ?_; rintro e w3 ⟨rfl, hb3⟩; rw [hv'.out])
          go_ret
          exact ⟨ret_bool (by have : vs.all okVal = false := by have := hv'.out; rw [List.any_eq_not_all_not] at this; simpa using this
                              simp only [okFact, this, Bool.and_false]), hB2.out.trans hb3⟩
        | false =>
          have hv' := Aside0.mk hv
          clear hv
          go_wp2_with (go_at_call 123; refine (ContainsFuncV_calls w2 B d vs (h1.on hB2.out)).mono ?_; rintro e w3 ⟨rfl, hb3⟩; rw [hv'.out])
          go_ret
          exact ⟨ret_bool (by have : vs.all okVal = true := by have := hv'.out; rw [List.any_eq_not_all_not] at this; simpa using this
                              have hl3 := beq_iff_eq.1 hl1; simp [okFact, this, hr'.out, har, hm, hl3]), hB2.out.trans hb3⟩
theorem isNaN_calls (w : World) (v : Int) : Calls Tryz.prog 171 #[.int .i64 v] w fun e w' => e = .returned (.bool false) ∧ On w w' := by
  go_enter Tryz.func171, Tryz.ntmps171
  go_wp2
  go_ret
  exact ⟨by simp, On.refl _⟩
theorem cmpCompare_calls (w : World) (a b : Int) : Calls Tryz.prog 120 #[.int .i64 a, .int .i64 b] w fun e w' => e = .returned (.int .i64 (cmpI a b)) ∧ On w w' := by
  by_cases h1 : a < b
  · have h1b : decide (a < b) = true := decide_eq_true h1
    go_enter Tryz.func120, Tryz.ntmps120
    go_wp2_with (first | (go_at_call 171; refine (isNaN_calls w _).mono ?_; rintro e w1 ⟨rfl, hb1⟩) | (go_at_call 171; refine (isNaN_calls w1 _).mono ?_; rintro e w2 ⟨rfl, hb2⟩))
    go_ret
    exact ⟨ret_int (by unfold cmpI; rw [if_pos (of_decide_eq_true h1b)]), hb1.trans hb2⟩
  · have h1b : decide (a < b) = false := decide_eq_false h1
    by_cases h2 : b < a
    · have h2b : decide (b < a) = true := decide_eq_true h2
      go_enter Tryz.func120, Tryz.ntmps120
      go_wp2_with (first | (go_at_call 171; refine (isNaN_calls w _).mono ?_; rintro e w1 ⟨rfl, hb1⟩) | (go_at_call 171; refine (isNaN_calls w1 _).mono ?_; rintro e w2 ⟨rfl, hb2⟩))
      go_ret
      exact ⟨ret_int (by unfold cmpI; rw [if_neg (of_decide_eq_false h1b), if_pos (of_decide_eq_true h2b)]), hb1.trans hb2⟩
    · have h2b : decide (b < a) = false := decide_eq_false h2
      go_enter Tryz.func120, Tryz.ntmps120
      go_wp2_with (first | (go_at_call 171; refine (isNaN_calls w _).mono ?_; rintro e w1 ⟨rfl, hb1⟩) | (go_at_call 171; refine (isNaN_calls w1 _).mono ?_; rintro e w2 ⟨rfl, hb2⟩))
      go_ret
      exact ⟨ret_int (by unfold cmpI; rw [if_neg (of_decide_eq_false h1b), if_neg (of_decide_eq_false h2b)]), hb1.trans hb2⟩
theorem cmpI_bd (a b : Int) : -1 ≤ cmpI a b ∧ cmpI a b ≤ 1 := by unfold cmpI; split <;> (try split) <;> omega
theorem ints_stepI (a b : List Int) (k : Nat) (h1 : k < a.length) (h2 : k < b.length) : ints (a.drop k) (b.drop k) = if cmpI a[k] b[k] = 0 then ints (a.drop (k + 1)) (b.drop (k + 1)) else cmpI a[k] b[k] := by
  rw [ints_step a b k h1 h2]; unfold cmpI; split
  · simp
  · split <;> simp
theorem slicesCompare_calls (w : World) (A B : Option Addr) (c d : Nat) (a b : List Int) (ha : Ints w A c a) (hb : Ints w B d b) : Calls Tryz.prog 121 #[.slice A a.length c, .slice B b.length d] w fun e w' => e = .returned (.int .i64 (ints a b)) ∧ On w w' := by
  have hma := ha.max
  have hmb := hb.max
  go_enter Tryz.func121, Tryz.ntmps121
  go_wp2
  go_loopw [11] (fun v wr => ∃ k : Nat, k ≤ a.length ∧ k ≤ b.length ∧ v = .int .i64 k ∧ Hid (ints (a.drop k) (b.drop k) = ints a b) ∧ On w wr) (fun v _ => a.length - (intOf v).toNat)
  case atStart => exact ⟨0, Nat.zero_le _, Nat.zero_le _, rfl, rfl, On.refl _⟩
  case round =>
    obtain ⟨k, hk1, hk2, rfl, hp, hB⟩ := hrel
    by_cases h1 : k < a.length
    · obtain ⟨ad, rfl, hx⟩ := (ha.on hB).at k h1
      by_cases h2 : k < b.length
      · obtain ⟨bd, rfl, hy⟩ := (hb.on hB).at k h2
        have h2n : decide (b.length ≤ k) = false := decide_eq_false (by omega)
        have hst := Aside0.mk ((ints_stepI a b k h1 h2).symm.trans hp.out)
        clear hp
        by_cases h3 : cmpI a[k] b[k] = 0
        · have h3' := Aside0.mk h3
          have h3b : (cmpI a[k] b[k] != 0) = false := by simp [h3]
          clear h3
          go_wp2_with (go_at_call 120; refine (cmpCompare_calls _ _ _).mono ?_; rintro e w3 ⟨rfl, hb3⟩)
          go_roundw
          case rel => exact ⟨k + 1, by omega, by omega, by go_num, (by have := hst.out; rwa [if_pos h3'.out] at this : _ = _), hB.trans hb3⟩
          case measure => simp [intOf]; omega
        · have h3' := Aside0.mk h3
          have h3b : (cmpI a[k] b[k] != 0) = true := by simp [h3]
          clear h3
          go_wp2_with (go_at_call 120; refine (cmpCompare_calls _ _ _).mono ?_; rintro e w3 ⟨rfl, hb3⟩)
          go_ret
          exact ⟨ret_int (by have := hst.out; rwa [if_neg h3'.out] at this), hB.trans hb3⟩
      · have hb0 : b.drop k = [] := List.drop_of_length_le (by omega)
        have h2n : decide (b.length ≤ k) = true := decide_eq_true (by omega)
        have hp' := Aside0.mk hp.out
        clear hp
        go_wp2
        go_ret
        exact ⟨ret_int (by rw [← hp'.out, hb0, List.drop_eq_getElem_cons h1]; rfl), hB⟩
    · have ha0 : a.drop k = [] := List.drop_of_length_le (by omega)
      have hp' := Aside0.mk hp.out
      clear hp
      by_cases h2 : k < b.length
      · have h4 : a.length < b.length := by omega
        go_wp2
        go_ret
        exact ⟨ret_int (by rw [← hp'.out, ha0, List.drop_eq_getElem_cons h2]; rfl), hB⟩
      · have hb0 : b.drop k = [] := List.drop_of_length_le (by omega)
        have h4 : ¬ a.length < b.length := by omega
        go_wp2
        go_ret
        exact ⟨ret_int (by rw [← hp'.out, ha0, hb0]; rfl), hB⟩
/-- The first that is not 0. -/
def orFrom : List Int → Int
  | [] => 0
  | x :: l => if x = 0 then orFrom l else x
theorem orFrom_step (l : List Int) (k : Nat) (h : k < l.length) : orFrom (l.drop k) = if l[k] = 0 then orFrom (l.drop (k + 1)) else l[k] := by
  rw [List.drop_eq_getElem_cons h]; rfl
theorem cmpOr_calls (w : World) (A c) (l : List Int) (h : Ints w A c l) : Calls Tryz.prog 119 #[.slice A l.length c] w fun e w' => e = .returned (.int .i64 (orFrom l)) ∧ On w w' := by
  have hmax := h.max
  go_enter Tryz.func119, Tryz.ntmps119
  go_wp2
  go_loop [8] (fun v => ∃ k : Nat, k ≤ l.length ∧ v = .int .i64 k ∧ Hid (orFrom (l.drop k) = orFrom l)) (fun v => l.length - (intOf v).toNat)
  case atStart => exact ⟨0, Nat.zero_le _, rfl, rfl⟩
  case round =>
    obtain ⟨k, hk, rfl, hp⟩ := hrel
    by_cases hlt : k < l.length
    · obtain ⟨ad, rfl, hx⟩ := h.at k hlt
      have hst := Aside0.mk ((orFrom_step l k hlt).symm.trans hp.out)
      clear hp
      by_cases h3 : l[k] = 0
      · have h3' := Aside0.mk h3
        have h3b : (l[k] != 0) = false := by simp [h3]
        clear h3
        go_wp2
        go_round
        case rel => exact ⟨k + 1, by omega, by go_num, (by have := hst.out; rwa [if_pos h3'.out] at this : _ = _)⟩
        case measure => simp [intOf]; omega
      · have h3' := Aside0.mk h3
        have h3b : (l[k] != 0) = true := by simp [h3]
        clear h3
        go_wp2
        go_ret
        exact ⟨ret_int (by have := hst.out; rwa [if_neg h3'.out] at this), On.refl _⟩
    · go_wp2
      go_ret
      exact ⟨ret_int (by rw [← hp.out, List.drop_of_length_le (by omega)]; rfl), On.refl _⟩
theorem ints2 (w : World) (a b : Int) : Ints (w.alloc (.cells #[.int .i64 a, .int .i64 b] 3)) (some ⟨w.heap.size, 0, none⟩) 2 [a, b] ↔ InR [a, b] := by
  refine ⟨fun h => h.2.2, fun h => ⟨Nat.le_refl _, ⟨rfl, by simp, fun _ => ⟨_, rfl, fun j p hj => ?_⟩⟩, h⟩⟩
  refine ⟨[.int .i64 p], rfl, rfl, fun i u hu => ?_⟩
  have hc := blk_cell (loc_new w #[.int .i64 a, .int .i64 b] 3)
  obtain ⟨rfl, rfl⟩ : i = 0 ∧ u = .int .i64 p := by
    cases i with
    | zero => simp at hu; exact ⟨rfl, hu.symm⟩
    | succ i => simp at hu
  rw [add_plain, show j * kInts.sz + 0 = j from by show j * 1 + 0 = j; omega, hc]
  match j, hj with
  | 0, hj => simp at hj; subst hj; rfl
  | 1, hj => simp at hj; subst hj; rfl
  | j + 2, hj => simp at hj
theorem ints_bd (a b : List Int) : -1 ≤ ints a b ∧ ints a b ≤ 1 := by
  induction a generalizing b with
  | nil => cases b <;> simp [ints]
  | cons x a ih =>
    cases b with
    | nil => simp [ints]
    | cons y b =>
      unfold ints
      split
      · omega
      · split
        · omega
        · exact ih b
theorem iCompareFacts_calls (w : World) (A0 c0 A1 c1) (f g : Fct) (h0 : Ints w A0 c0 f.2) (h1 : Ints w A1 c1 g.2) : Calls Tryz.prog 48 #[.agg #[.int .i64 f.1, .slice A0 f.2.length c0], .agg #[.int .i64 g.1, .slice A1 g.2.length c1]] w fun e w' => e = .returned (.int .i64 (cmpF f g)) ∧ On w w' := by
  have hb0 := Aside0.mk (On.alloc (On.alloc (On.refl w) (.cells #[.int .i64 f.1, .slice A0 f.2.length c0] 60)) (.cells #[.int .i64 g.1, .slice A1 g.2.length c1] 60))
  go_enter Tryz.func48, Tryz.ntmps48
  go_wp2
  refine Reg.region [(0,.L),(1,.L),(2,.L),(3,.L),(4,.C),(5,.L),(6,.L),(7,.L),(8,.L),(9,.C)] [10,11,12] (by kernel_rfl) (by kernel_rfl) ?_
  repeat first | refine sP ?_ | refine sS ?_ | refine sA ?_ | refine sL ?_ | refine sQ ?_ | refine sO ?_
  refine callC (.int .i64 (cmpI f.1 g.1)) Tryz.func120 (fun w' hS => ?_) ?_
  focus exact cmpCompare_calls w' _ _
  repeat first | refine sP ?_ | refine sS ?_ | refine sA ?_ | refine sL ?_ | refine sQ ?_ | refine sO ?_
  refine callC (.int .i64 (ints f.2 g.2)) Tryz.func121 (fun w' hS => ?_) ?_
  focus exact slicesCompare_calls w' _ _ _ _ f.2 g.2 (h0.on (hb0.out.trans hS)) (h1.on (hb0.out.trans hS))
  repeat first | refine sP ?_ | refine sS ?_ | refine sA ?_ | refine sL ?_ | refine sQ ?_ | refine sO ?_
  refine Reg.tail_ fun w2 hS => ?_
  have hc := cmpI_bd f.1 g.1
  have hi := ints_bd f.2 g.2
  have hr := Aside0.mk ((ints2 w2 (cmpI f.1 g.1) (ints f.2 g.2)).2 (fun x hx => by simp at hx; rcases hx with rfl | rfl <;> omega))
  clear hc hi
  go_wp2_with (go_at_call 119; refine (cmpOr_calls _ _ _ _ hr.out).mono ?_; rintro e w3 ⟨rfl, hb3⟩)
  go_ret
  refine ⟨ret_int ?_, (hb0.out.trans hS).trans ((On.alloc (On.refl _) _).trans hb3)⟩
  rw [cmpF_or]
  simp only [orFrom]
  by_cases h3 : cmpI f.1 g.1 = 0
  · simp only [h3, if_pos, ne_eq, not_true, if_false]
    by_cases h4 : ints f.2 g.2 = 0
    · rw [if_pos h4, h4]
    · rw [if_neg h4]
  · simp [h3]
end Go.Proofs.YtgemaohdlibboaaGreatDoor.H
/- Walks: the program's own search for facts. No condition. -/
namespace Go.Proofs.YtgemaohdlibboaaGreatDoor.H
open Go Go.RowKit Go.Proofs.YtgemaohdlibboaaGreatDoorW.PrintWords Go.Proofs.YtgemaohdlibboaaGreatDoorW.PrintLast
open Go.Proofs.YtgemaohdlibboaaGreatDoor.Reg (On on_draw)
set_option maxHeartbeats 1000000
set_option maxRecDepth 100000
set_option linter.unusedVariables false
set_option linter.unusedSimpArgs false

theorem sameFact_calls (w : World) (A0 c0 A1 c1) (f g : Fct) (h0 : Ints w A0 c0 f.2) (h1 : Ints w A1 c1 g.2) : Calls Tryz.prog 76 #[.agg #[.int .i64 f.1, .slice A0 f.2.length c0], .agg #[.int .i64 g.1, .slice A1 g.2.length c1]] w fun e w' => e = .returned (.bool (cmpF f g == 0)) ∧ On w w' := by
  have hb := Aside0.mk (On.alloc (On.alloc (On.refl w) (.cells #[.int .i64 f.1, .slice A0 f.2.length c0] 60)) (.cells #[.int .i64 g.1, .slice A1 g.2.length c1] 60))
  go_enter Tryz.func76, Tryz.ntmps76
  go_wp2_with (go_at_call 48; refine (iCompareFacts_calls _ A0 c0 A1 c1 f g (h0.on hb.out) (h1.on hb.out)).mono ?_; rintro e w1 ⟨rfl, hb1⟩)
  go_ret
  exact ⟨rfl, hb.out.trans hb1⟩
/-- A call of a closure. -/
theorem goesC {ops : Array Oper} {rest : List Oper} {o : Oper} {a : Act} {Q : Exit → Act → World → Prop} {w : World} (N : Tmp) {x : Operand} {f : FuncId} {fn : Func} {xs : Array Operand} {ts : Array TypeId} {caps args : Array Value} (hf : Tryz.prog.funcs[f]? = some fn) (hname : (fn.name == "runtime.NumGoroutine") = false) (hb : fn.body.isSome = true)
    (h : Calls Tryz.prog f args w fun e w' => ∃ v, e = .returned v ∧ wpList Tryz.prog ops Q rest (a.put (some N) v) w')
    (hop : o.op = .call { callee := .value x, args := xs, argTypes := ts } := by rfl) (hx : a.eval x = .func (.func f) #[] caps := by rfl) (hargs : xs.map a.eval ++ caps = args := by (try simp only [List.map_toArray, List.map_cons, List.map_nil]); rfl)
    (hd : o.dst = some N := by rfl) (hg : o.guard = none := by rfl) : wpList Tryz.prog ops Q (o :: rest) a w := by
  refine wpList_plain hg fun K hK => ?_
  have he := enters_ hf hname hb args w
  have hrun : (execOp a.eval o).run Tryz.prog w = .ok (.enter f args) w := by
    unfold execOp
    simp [hop, resolve, Deferred.ofValue, invoke, hx, hargs, he]
  unfold Oper.wp
  rw [hrun, Oper.upon_enter]
  refine h.mono fun e w'' hh => ?_
  obtain ⟨v, rfl, hk⟩ := hh
  rw [← hd] at hk
  exact hK _ _ hk
end Go.Proofs.YtgemaohdlibboaaGreatDoor.H
/- Walks: texts cut, relations looked up, on both sides. No condition. -/
namespace Go.Proofs.YtgemaohdlibboaaGreatDoor.H
open Go Go.RowKit Go.Proofs.YtgemaohdlibboaaGreatDoorW.PrintWords Go.Proofs.YtgemaohdlibboaaGreatDoorW.PrintLast
open Go.Proofs.YtgemaohdlibboaaGreatDoor.Reg (On on_draw)
set_option maxHeartbeats 4000000
set_option maxRecDepth 100000
set_option linter.unusedVariables false
set_option linter.unusedSimpArgs false

theorem encS_map (ss : List (List UInt8)) : (ss.map strB).map Value.string = ss.flatMap encS := by
  induction ss with
  | nil => rfl
  | cons x ss ih => simp at ih ⊢; exact ih
theorem Split_calls (w : World) (s : List UInt8) (c : UInt8) (hl : s.length ≤ 2000000) : Calls Tryz.prog 56 #[.string (strB s), .string (strB [c])] w (Got fun v w' => OSt w' w.heap.size v (cutS c s) ∧ On w w') := by
  have hsz : (strB s).size < 4294967281 := by rw [strB_size]; omega
  have h1 : 1 ≤ (strB [c]).size := by rw [strB_size]; simp
  have hle := Lib.countB_le (strB [c]) h1 (strB s).size (strB s) (Nat.le_refl _)
  have hlen := Lib.splitB_all (strB [c]) h1 0 _ (strB s) rfl
  have hI : ∀ (x : ByteArray) (cs : Array Value), x.size ≤ (strB s).size → Calls Tryz.prog 180 #[.string x, .string (strB [c])] (w.alloc (.cells cs 9 (0, 0))) fun e w' => e = .returned (.int .i64 (Lib.indexB x (strB [c]))) ∧ w' = w.alloc (.cells cs 9 (0, 0)) := fun x cs _ => by
    have h := Tryz.strings_Index_one x c (w.alloc (.cells cs 9 (0, 0)))
    have e : Lib.indexB x (strB [c]) = Lib.indexByte x.data.toList c := by
      show Lib.index x.data.toList (strB [c]).data.toList = _
      rw [strB_data, Lib.index_one]
    rw [e]
    exact h
  have hC : Calls Tryz.prog 179 #[.string (strB s), .string (strB [c])] w fun e w' => e = .returned (.int .i64 (Lib.countB (strB s) (strB [c]))) ∧ w' = w := by
    refine (Tryz.strings_Count_one (strB s) c w).mono fun e w' ⟨he, hw⟩ => ⟨?_, hw⟩
    rw [he]
    show _ = Ending.returned (Value.int .i64 ((Lib.count (strB s).data.toList (strB [c]).data.toList : Nat) : Int))
    rw [strB_data [c], Lib.count_one]
    rfl
  have key := Any.strings_genSplit_core Tryz.lays221 (by kernel_rfl) (strB s) (strB [c]) 0 (-1) (Lib.countB (strB s) (strB [c]) + 1) w hsz h1 (Nat.zero_le _) hI hC (by decide) (by decide) (by rw [if_pos (by decide)]; omega)
  rw [Nat.add_sub_cancel, hlen] at key
  have e2 : Lib.cellsOf (Lib.splitB (strB [c]) 0 (Lib.countB (strB s) (strB [c])) (strB s)) (Lib.countB (strB s) (strB [c]) + 1) = ((Lib.splitB (strB [c]) 0 (Lib.countB (strB s) (strB [c])) (strB s)).map Value.string).toArray := by rw [← hlen]; exact Lib.cellsOf_full _
  rw [e2, splitB_cut, encS_map] at key
  have hn : Lib.countB (strB s) (strB [c]) + 1 = (cutS c s).length := by rw [← hlen, splitB_cut, List.length_map]
  rw [hn] at key
  have key2 : Calls Tryz.prog 130 #[.string (strB s), .string (strB [c]), .int .i64 0, .int .i64 (-1)] w fun e w' => e = .returned (.slice (some ⟨w.heap.size, 0, none⟩) (cutS c s).length (cutS c s).length) ∧ w' = w.alloc (.cells ((cutS c s).flatMap encS).toArray 9 (0, 0)) := key
  have hO := World.ownsRow_lit (base := w.heap.size) (e := 9) (size := 1) w ((cutS c s).flatMap encS).toArray (cutS c s).length (Nat.le_refl _) (by simp [maxLen]; rw [← hn]; rw [strB_size] at hle; omega) (by rw [List.size_toArray, flat_len (enc := encS) (sz := 1) (fun _ => rfl)])
  have hO' := Aside0.mk hO
  clear hO key hI hC e2 hlen hle h1 hsz hn
  go_enter Tryz.func56, Tryz.ntmps56
  go_wp2_with (go_at_call 130; refine key2.mono ?_; rintro e w1 ⟨rfl, rfl⟩)
  go_ret
  exact ⟨_, rfl, hO'.out, On.alloc (On.refl _) _⟩
theorem idx_beq (rs : List Rel) (nm : List UInt8) (k : Nat) (h : k < rs.length) : (rs[k].1.toList == (strB nm).toList) = decide (rs[k].1.data.toList = nm) := by
  rw [ByteArray.toList_eq, ByteArray.toList_eq, strB_data, Bool.eq_iff_iff]; simp
abbrev nmP (nm : List UInt8) : Rel → Bool := fun r => decide (r.1.data.toList = nm)
theorem sRelationIndex_calls (w : World) (A : Option Addr) (c : Nat) (rs : List Rel) (h : Rels w A c rs) (nm : List UInt8) : Calls Tryz.prog 117 #[.slice A rs.length c, .string (strB nm)] w fun e w' => e = .returned (.int .i64 (idxFrom (nmP nm) rs 0)) ∧ On w w' := by
  have hmax := h.max
  go_enter Tryz.func117, Tryz.ntmps117
  go_wp2
  go_loopw [5] (fun v wr => ∃ k : Nat, k ≤ rs.length ∧ v = .int .i64 k ∧ Hid (idxFrom (nmP nm) (rs.drop k) k = idxFrom (nmP nm) rs 0) ∧ On w wr) (fun v _ => rs.length - (intOf v).toNat)
  case atStart => exact ⟨0, Nat.zero_le _, rfl, rfl, On.refl _⟩
  case round =>
    obtain ⟨k, hk, rfl, hp, hB⟩ := hrel
    by_cases hlt : k < rs.length
    · obtain ⟨ad, rfl, hx0, hx1, hx2⟩ := (h.on hB).at k hlt
      have hst := Aside0.mk ((idxFrom_step (nmP nm) rs k hlt).symm.trans hp.out)
      have hbq := idx_beq rs nm k hlt
      clear hp hx1 hx2
      cases hv : decide (rs[k].1.data.toList = nm) with
      | true =>
        rw [hv] at hbq
        have hv' := Aside0.mk (show nmP nm rs[k] = true from hv)
        clear hv
        go_wp2
        go_ret
        exact ⟨ret_int (by have := hst.out; rw [hv'.out, if_pos rfl] at this; exact this), hB⟩
      | false =>
        rw [hv] at hbq
        have hv' := Aside0.mk (show nmP nm rs[k] = false from hv)
        clear hv
        go_wp2
        exact ⟨⟨k + 1, by omega, by go_num, (by have := hst.out; rwa [hv'.out, if_neg (by simp)] at this : _ = _), hB⟩, by simp [intOf]; omega⟩
    · go_wp2
      go_ret
      exact ⟨ret_int (by rw [← hp.out, List.drop_of_length_le (by omega)]; rfl), hB⟩
theorem RelIdx1_calls (w : World) (r : Rel) (nm : List UInt8) (b : Nat) (hb0 : w.heap[b]? = some (.cells #[.string (strB nm)] 9 (0, 0))) : Calls Tryz.prog 168 #[.agg #[.string r.1, .int .i64 r.2.1, .bool r.2.2], .pointer (some ⟨b, 0, none⟩)] w fun e w' => e = .returned (.bool (nmP nm r)) ∧ On w w' := by
  have hb := Aside0.mk (On.alloc (On.refl w) (.cells #[.string r.1, .int .i64 r.2.1, .bool r.2.2] 95))
  have hc := blk_cell (blk_below hb0 hb.out)
  have hlt := Aside0.mk (blk_lt hb0)
  have hbq : (r.1.toList == (strB nm).toList) = nmP nm r := by
    rw [ByteArray.toList_eq, ByteArray.toList_eq, strB_data, Bool.eq_iff_iff]; simp [nmP]
  have hbq' := Aside0.mk hbq
  clear hb0 hbq
  go_enter Tryz.func168, Tryz.ntmps168
  go_wp2
  go_ret
  exact ⟨ret_bool hbq'.out, hb.out⟩
theorem IndexFuncR_calls (w : World) (A c) (fs : List Rel) (h : Rels w A c fs) {fn : FuncId} {F : Func} (caps : Array Value) (p : Rel → Bool) (hf : Tryz.prog.funcs[fn]? = some F) (hname : (F.name == "runtime.NumGoroutine") = false) (hbd : F.body.isSome = true)
    (hcl : ∀ (w' : World), On w w' → ∀ (r : Rel), Calls Tryz.prog fn (#[.agg #[.string r.1, .int .i64 r.2.1, .bool r.2.2]] ++ caps) w' fun e w'' => e = .returned (.bool (p r)) ∧ On w' w'') :
    Calls Tryz.prog 167 #[.slice A fs.length c, .func (.func fn) #[] caps] w fun e w' => e = .returned (.int .i64 (idxFrom p fs 0)) ∧ On w w' := by
  have hmax := h.max
  go_enter Tryz.func167, Tryz.ntmps167
  go_wp2
  go_loopw [8] (fun v wr => ∃ k : Nat, k ≤ fs.length ∧ v = .int .i64 k ∧ Hid (idxFrom p (fs.drop k) k = idxFrom p fs 0) ∧ On w wr) (fun v _ => fs.length - (intOf v).toNat)
  case atStart => exact ⟨0, Nat.zero_le _, rfl, rfl, On.refl _⟩
  case round =>
    obtain ⟨k, hk, rfl, hp, hB⟩ := hrel
    by_cases hlt : k < fs.length
    · obtain ⟨ad, rfl, hx0, hx1, hx2⟩ := (h.on hB).at k hlt
      have hst := Aside0.mk ((idxFrom_step p fs k hlt).symm.trans hp.out)
      clear hp
      have hc2 := Aside0.mk (hcl wr hB fs[k])
      cases hv : p fs[k] with
      | true =>
        rw [hv] at hc2
        have hv' := Aside0.mk hv
        clear hv
        go_wp2_with (refine gate 16 ?_)
        refine ⟨goesC 16 hf hname hbd (hc2.out.mono fun e w2 h2 => ⟨_, h2.1, ?_⟩)⟩
        have hb2 := Aside0.mk h2.2
        clear h2
        go_wp2
        go_ret
        exact ⟨ret_int (by have := hst.out; rw [hv'.out, if_pos rfl] at this; exact this), hB.trans hb2.out⟩
      | false =>
        rw [hv] at hc2
        have hv' := Aside0.mk hv
        clear hv
        go_wp2_with (refine gate 16 ?_)
        refine ⟨goesC 16 hf hname hbd (hc2.out.mono fun e w2 h2 => ⟨_, h2.1, ?_⟩)⟩
        have hb2 := Aside0.mk h2.2
        clear h2
        go_wp2
        exact ⟨⟨k + 1, by omega, by go_num, (by have := hst.out; rwa [hv'.out, if_neg (by simp)] at this : _ = _), hB.trans hb2.out⟩, by simp [intOf]; omega⟩
    · go_wp2
      go_ret
      exact ⟨ret_int (by rw [← hp.out, List.drop_of_length_le (by omega)]; rfl), hB⟩
theorem iRelationIndex_calls (w : World) (A : Option Addr) (c : Nat) (rs : List Rel) (h : Rels w A c rs) (nm : List UInt8) : Calls Tryz.prog 111 #[.slice A rs.length c, .string (strB nm)] w fun e w' => e = .returned (.int .i64 (idxFrom (nmP nm) rs 0)) ∧ On w w' := by
  have hb := Aside0.mk (On.alloc (On.refl w) (.cells #[.string (strB nm)] 9))
  have hL := Aside0.mk (loc_new w #[.string (strB nm)] 9)
  go_enter Tryz.func111, Tryz.ntmps111
  go_wp2_with (go_at_call 167; refine (IndexFuncR_calls _ A c rs (h.on hb.out) (fn := 168) #[.pointer (some ⟨w.heap.size, 0, none⟩)] (nmP nm) Tryz.func168 (by kernel_rfl) rfl (fun w' hw r => RelIdx1_calls w' r nm w.heap.size (blk_below hL.out hw))).mono ?_; rintro e w3 ⟨rfl, hb3⟩)
  go_ret
  exact ⟨rfl, hb.out.trans hb3⟩
end Go.Proofs.YtgemaohdlibboaaGreatDoor.H
/- Walks: texts cut at a sign, on both sides. No condition. -/
namespace Go.Proofs.YtgemaohdlibboaaGreatDoor.H
open Go Go.RowKit Go.Proofs.YtgemaohdlibboaaGreatDoorW.PrintWords Go.Proofs.YtgemaohdlibboaaGreatDoorW.PrintLast
open Go.Proofs.YtgemaohdlibboaaGreatDoor.Reg (On on_draw)
set_option maxHeartbeats 4000000
set_option maxRecDepth 100000
set_option linter.unusedVariables false
set_option linter.unusedSimpArgs false

theorem TrimSuffix_calls (w : World) (s : List UInt8) (hl : s.length ≤ 2000000) : Calls Tryz.prog 112 #[.string (strB s), .string (strB [41])] w fun e w' => e = .returned (.string (strB (Lib.trimSuffix s [41]))) ∧ On w w' := by
  refine (Tryz.strings_TrimSuffix (strB s) (strB [41]) w (by rw [strB_size]; omega)).mono fun e w' ⟨he, hw⟩ => ?_
  subst hw
  rw [he, strB_data, strB_data]
  exact ⟨rfl, On.refl _⟩
theorem cutP_lib (s : List UInt8) : Lib.trimPrefix s [43] = (cutP s).1 ∧ Lib.hasPrefix s [43] = (cutP s).2 := by
  unfold Lib.trimPrefix Lib.hasPrefix
  cases s with
  | nil => exact ⟨rfl, rfl⟩
  | cons b r =>
    have hh : cutP (b :: r) = if b = 43 then (r, true) else (b :: r, false) := rfl
    rw [hh]
    by_cases h : b = 43
    · subst h; simp
    · rw [if_neg h]
      have : ([43] : List UInt8).isPrefixOf (b :: r) = false := by simp [List.isPrefixOf]; exact fun e => h e.symm
      rw [this]; simp
theorem CutPrefix_calls (w : World) (s : List UInt8) : Calls Tryz.prog 106 #[.string (strB s), .string (strB [43])] w fun e w' => e = .returned (.tuple #[.string (strB (cutP s).1), .bool (cutP s).2]) ∧ On w w' := by
  refine (Tryz.strings_CutPrefix (strB s) (strB [43]) w).mono fun e w' ⟨he, hw⟩ => ?_
  subst hw
  rw [he, strB_data, strB_data, (cutP_lib s).1, (cutP_lib s).2]
  exact ⟨rfl, On.refl _⟩
theorem sliteCut_calls (w : World) (s : List UInt8) (c : UInt8) (hl : s.length ≤ 2000000) : Calls Tryz.prog 129 #[.string (strB s), .string (strB [c])] w fun e w' => e = .returned (.tuple #[.string (strB (Lib.cut s [c]).1), .string (strB (Lib.cut s [c]).2.1), .bool (Lib.cut s [c]).2.2]) ∧ On w w' := by
  have hix := Aside0.mk (Tryz.stringslite_Index_one (strB s) c)
  rcases cut_cases c s with h | ⟨a, b, h, h2⟩
  · have hcut := Aside0.mk (cut_none h)
    have hi := Aside0.mk (show Lib.indexByte (strB s).data.toList c = -1 by rw [strB_data, ← Lib.index_one, index_none h])
    clear h
    go_enter Tryz.func129, Tryz.ntmps129
    go_wp2_with (go_at_call 177; refine (hix.out _).mono ?_; rintro e w1 ⟨rfl, rfl⟩; rw [hi.out])
    go_ret3
    exact ⟨by rw [hcut.out]; rfl, On.refl _⟩
  · have hcut := Aside0.mk (show Lib.cut s [c] = (a, b, true) by rw [h]; exact cut_app b h2)
    have hi := Aside0.mk (show Lib.indexByte (strB s).data.toList c = (a.length : Int) by rw [strB_data, ← Lib.index_one, h, index_app b h2])
    have hsl : s.length = a.length + 1 + b.length := by rw [h]; simp; omega
    have e1 : (strB s).extract 0 a.length = strB a := by rw [strB_extract, h]; simp
    have e2 : (strB s).extract (a.length + 1) (strB s).size = strB b := by rw [strB_rest, h]; simp
    have hss : (strB s).size = s.length := strB_size s
    have hs1 : (strB [c]).size = 1 := by rw [strB_size]; rfl
    have b1 : (a.length : Int) ≤ ((strB s).size : Int) := by rw [hss]; omega
    have b2 : (a.length : Int) + 1 ≤ ((strB s).size : Int) := by rw [hss]; omega
    have hs := Aside0.mk (And.intro hsl hss)
    have bn1 : a.length ≤ (strB s).size := by rw [hss]; omega
    have bn2 : a.length + 1 ≤ (strB s).size := by rw [hss]; omega
    have hwr : IntKind.i64.wrap ((a.length : Int) + 1) = ((a.length + 1 : Nat) : Int) := by rw [IntWalk.i64_in _ (by omega)]; omega
    clear h h2 hsl hss
    go_enter Tryz.func129, Tryz.ntmps129
    go_wp2_with (go_at_call 177; refine (hix.out _).mono ?_; rintro e w1 ⟨rfl, rfl⟩; rw [hi.out])
    refine Reg.region [(0,.P),(1,.P),(2,.P),(3,.P),(4,.P),(5,.P),(6,.P),(7,.P),(8,.P)] [9,10,11] (by kernel_rfl) (by kernel_rfl) ?_
    repeat first | refine sP ?_ | refine sS ?_ | refine sA ?_ | refine sL ?_ | refine sQ ?_ | refine sO ?_
    refine Reg.tail_ fun w2 hS => ?_
    go_wp2
    go_ret3
    exact ⟨by rw [hcut.out]; rfl, hS⟩
theorem Cut_calls (w : World) (s : List UInt8) (c : UInt8) (hl : s.length ≤ 2000000) : Calls Tryz.prog 55 #[.string (strB s), .string (strB [c])] w fun e w' => e = .returned (.tuple #[.string (strB (Lib.cut s [c]).1), .string (strB (Lib.cut s [c]).2.1), .bool (Lib.cut s [c]).2.2]) ∧ On w w' := by
  go_enter Tryz.func55, Tryz.ntmps55
  go_wp2_with (go_at_call 129; refine (sliteCut_calls _ s c hl).mono ?_; rintro e w1 ⟨rfl, hb1⟩)
  go_ret3
  exact ⟨rfl, hb1⟩
theorem cutS_hit {c : UInt8} {s : List UInt8} {i : Nat} (h : i < s.length) (hc : s[i] = c) : cutS c (s.drop i) = [] :: cutS c (s.drop (i + 1)) := by
  rw [List.drop_eq_getElem_cons h, cutS, if_pos hc]
theorem cutS_miss {c : UInt8} {s : List UInt8} {i : Nat} (h : i < s.length) (hc : s[i] ≠ c) : cutS c (s.drop i) = preP [s[i]] (cutS c (s.drop (i + 1))) := by
  rw [List.drop_eq_getElem_cons h, cutS, if_neg hc]
theorem take_one {s : List UInt8} {fr i : Nat} (h : i < s.length) (hf : fr ≤ i) : (s.drop fr).take (i + 1 - fr) = (s.drop fr).take (i - fr) ++ [s[i]] := by
  rw [show i + 1 - fr = (i - fr) + 1 by omega, List.take_succ_eq_append_getElem (by simp; omega), List.getElem_drop]
  simp only [show fr + (i - fr) = i by omega]
theorem strB_get (s : List UInt8) (i : Nat) (h : i < s.length) (k : i < (strB s).size) : (strB s)[i]'k = s[i]'h := by
  simp [strB, ByteArray.getElem_eq_getElem_data]
theorem strB_at (s : List UInt8) (i : Nat) (h : i < s.length) (b : UInt8) (hb : s[i] = b) : ∀ k : i < (strB s).size, (((strB s)[i]'k).toNat : Int) = (b.toNat : Int) := fun k => by
  rw [strB_get s i h k, hb]
theorem l3Cut_calls (w : World) (s : List UInt8) (c : UInt8) (hl : s.length ≤ 2000000) : Calls Tryz.prog 54 #[.string (strB s), .int .u8 (c.toNat : Int)] w (Got fun v w' => OSt w' w.heap.size v (cutS c s) ∧ On w w') := by
  have hss := Aside0.mk (strB_size s)
  have hl' := Aside0.mk hl
  clear hl
  go_enter Tryz.func54, Tryz.ntmps54
  go_wp2
  go_loopw [5, 6, 7] (fun v5 v6 v7 wr => ∃ (i fr : Nat) (ls : List (List UInt8)), fr ≤ i ∧ i ≤ s.length ∧ v6 = .int .i64 fr ∧ v7 = .int .i64 i ∧ OSt wr w.heap.size v5 ls ∧ ls.length ≤ i ∧ Aside0 (ls ++ preP ((s.drop fr).take (i - fr)) (cutS c (s.drop i)) = cutS c s) ∧ On w wr) (fun _ _ v7 _ => s.length - (intOf v7).toNat)
  case atStart => exact ⟨0, 0, [], Nat.le_refl _, Nat.zero_le _, rfl, rfl, ownS0 rfl (Nat.le_refl _), Nat.le_refl _, ⟨by simp [preP_nil]⟩, On.alloc (On.refl _) _⟩
  case round =>
    obtain ⟨i, fr, ls, hf, hi, rfl, rfl, hO, hll, hp, hB⟩ := hrel
    have hO' := Aside0.mk hO
    have hB' := Aside0.mk hB
    have hfi := Aside0.mk (And.intro hf hll)
    clear hO hB hll
    by_cases hlt : i < s.length
    · have hb1 : i < (strB s).size := by rw [hss.out]; exact hlt
      have hlt' := Aside0.mk hlt
      have hwk := Aside0.mk (show wrap64 ((i : Int) + 1) = ((i + 1 : Nat) : Int) by rw [IntWalk.wrap64_in _ (by have := hl'.out; omega)]; omega)
      have hil := Aside0.mk (show i + 1 ≤ s.length from hlt)
      obtain ⟨b, hbb⟩ : ∃ b, s[i]'hlt = b := ⟨_, rfl⟩
      have hat := strB_at s i hlt b hbb
      by_cases hc : b = c
      · have hce := Aside0.mk (cutS_hit hlt (hbb.trans hc))
        have hbc : ((b.toNat : Int) == (c.toNat : Int)) = true := by rw [hc]; simp
        have hbe : ((b.toNat : Int) = (c.toNat : Int)) = True := eq_true (by rw [hc])
        have e1 : (strB s).extract fr i = strB ((s.drop fr).take (i - fr)) := strB_extract s fr i
        have hz1 : (i : Int) ≤ ((strB s).size : Int) := by omega
        have hz2 : fr ≤ i := hf
        clear hc hbb hlt
        go_wp2_with (refine gate 25 ?_)
        refine ⟨litS1 25 (y := (s.drop fr).take (i - fr)) ?_⟩
        have hOA := Aside0.mk (own_ex hO'.out (Ex.of_on (S := fun _ => False) (On.alloc (On.refl wr) (.cells #[.string (strB ((s.drop fr).take (i - fr)))] 9 (0, 0)))) (fun _ _ h => h))
        have hBA := Aside0.mk (hB'.out.trans (On.alloc (On.refl wr) (.cells #[.string (strB ((s.drop fr).take (i - fr)))] 9 (0, 0))))
        obtain ⟨ys, hys⟩ : ∃ ys, ls ++ [(s.drop fr).take (i - fr)] = ys := ⟨_, rfl⟩
        have hys' := Aside0.mk hys
        refine apS1 26 hys hOA.out (lit_S wr ((s.drop fr).take (i - fr))) hBA.out.size (by have := hfi.out; have := hlt'.out; have := hl'.out; omega) fun v3 w3 hO3 hg3 => ?_
        have hO3' := Aside0.mk hO3
        have hB3 := Aside0.mk (Ex.on hBA.out (Ex.of_grown hg3) (fun i e => own_base hO'.out i e.symm))
        clear hys hO3 hg3
        go_wp2
        refine ⟨⟨i + 1, i + 1, ys, Nat.le_refl _, hil.out, by rw [hwk.out], by rw [hwk.out], hO3'.out, by rw [← hys'.out]; have := hfi.out; simp; omega, ⟨?_⟩, hB3.out⟩, by rw [hwk.out]; simp [intOf]; have := hil.out; omega⟩
        have := hp.out
        rw [hce.out, preP, List.append_nil] at this
        rw [← hys'.out, Nat.sub_self, List.take_zero, preP_nil, List.append_assoc]
        exact this
      · have hce := Aside0.mk (cutS_miss hlt (by rw [hbb]; exact hc))
        have hto := Aside0.mk (take_one hlt hf)
        rw [hbb] at hce hto
        have hbc : ((b.toNat : Int) == (c.toNat : Int)) = false := by simp; exact fun e => hc (UInt8.toNat_inj.1 (by omega))
        have hbe : ((b.toNat : Int) = (c.toNat : Int)) = False := eq_false (fun e => hc (UInt8.toNat_inj.1 (by omega)))
        clear hc hbb hlt
        go_wp2
        refine ⟨⟨i + 1, fr, ls, by have := hfi.out; omega, hil.out, rfl, by rw [hwk.out], hO'.out, by have := hfi.out; omega, ⟨by rw [hto.out]; have := hp.out; rw [hce.out, preP_preP] at this; exact this⟩, hB'.out⟩, by rw [hwk.out]; simp [intOf]; have := hil.out; omega⟩
    · have e1 : (strB s).extract fr (strB s).size = strB (s.drop fr) := strB_rest s fr
      have hz1 : fr ≤ (strB s).size := by rw [hss.out]; omega
      have hz3 : (fr : Int) ≤ ((strB s).size : Int) := by omega
      have hz2 : ¬ i < (strB s).size := by rw [hss.out]; exact hlt
      have hfin := Aside0.mk (show ls ++ [s.drop fr] = cutS c s by
        have h := hp.out
        rw [List.drop_eq_nil_of_le (by omega : s.length ≤ i), cutS, preP, List.append_nil, List.take_of_length_le (by simp; omega)] at h
        exact h)
      have hii := Aside0.mk (And.intro hi hlt)
      clear hlt hi hp
      go_wp2_with (refine gate 33 ?_)
      refine ⟨litS1 33 (y := s.drop fr) ?_⟩
      have hOA := Aside0.mk (own_ex hO'.out (Ex.of_on (S := fun _ => False) (On.alloc (On.refl wr) (.cells #[.string (strB (s.drop fr))] 9 (0, 0)))) (fun _ _ h => h))
      have hBA := Aside0.mk (hB'.out.trans (On.alloc (On.refl wr) (.cells #[.string (strB (s.drop fr))] 9 (0, 0))))
      refine apS1 34 hfin.out hOA.out (lit_S wr (s.drop fr)) hBA.out.size (by have := hfi.out; have := hl'.out; have := hii.out; omega) fun v3 w3 hO3 hg3 => ?_
      have hO3' := Aside0.mk hO3
      have hB3 := Aside0.mk (Ex.on hBA.out (Ex.of_grown hg3) (fun i e => own_base hO'.out i e.symm))
      clear hO3 hg3
      go_wp2
      go_ret
      exact ⟨_, rfl, hO3'.out, hB3.out⟩
end Go.Proofs.YtgemaohdlibboaaGreatDoor.H
/- Walks: a text spoiled. What is told: its length. No condition. -/
namespace Go.Proofs.YtgemaohdlibboaaGreatDoor.H
open Go Go.RowKit Go.Proofs.YtgemaohdlibboaaGreatDoorW.PrintWords Go.Proofs.YtgemaohdlibboaaGreatDoorW.PrintLast
open Go.Proofs.YtgemaohdlibboaaGreatDoor.Reg (On on_draw)
set_option maxHeartbeats 4000000
set_option maxRecDepth 100000
set_option linter.unusedVariables false
set_option linter.unusedSimpArgs false

/-- What a region that spoils comes to. -/
structure MSp (w0 w : World) (q n : Nat) (a' : Act) (w' : World) : Prop where mk :: (out : ∃ t : List UInt8, a'.tmps.getD 4 undef = .string (strB t) ∧ t.length ≤ n + 3 ∧ a'.defers = [] ∧ Cu w0 w' q ∧ Ex (fun b => b = q) w w')
theorem l1Spoil_calls (w0 w : World) (q : Nat) (hC : Cu w0 w q) (s : List UInt8) (hl : s.length ≤ 1000) : Calls Tryz.prog 68 #[.pointer (some ⟨q, 0, none⟩), .string (strB s)] w (Dr w0 w q fun v _ => ∃ t : List UInt8, v = .string (strB t) ∧ t.length ≤ s.length + 3) := by
  have hC' := Aside0.mk hC
  have hl' := Aside0.mk hl
  clear hC hl
  have hsz := strB_size s
  by_cases h0 : s = []
  · have z1 : ((strB s).size == 0) = true := by rw [hsz, h0]; rfl
    have z2 : (((strB s).size : Int) == 0) = true := by rw [hsz, h0]; rfl
    have z3 : (strB s).size = 0 := by rw [hsz, h0]; rfl
    have h0' := Aside0.mk h0
    clear h0 hsz
    go_enter Tryz.func68, Tryz.ntmps68
    go_wp2_with (go_at_call 143; refine Stop.out ?_)
    refine ⟨(l1Text_calls w0 w q hC'.out).mono ?_⟩
    rintro e w1 ⟨v, rfl, ⟨t, rfl, ht⟩, hC1, hE1⟩
    have ht' := Aside0.mk ht
    have hC1' := Aside0.mk hC1
    have hE1' := Aside0.mk hE1
    clear ht hC1 hE1 z1 z2 z3
    go_wp2
    go_ret
    exact ⟨_, rfl, ⟨t, rfl, by have := ht'.out; omega⟩, hC1'.out, hE1'.out⟩
  · have hpos := Aside0.mk (show 1 ≤ s.length from Nat.pos_of_ne_zero (fun e => h0 (List.length_eq_zero_iff.1 e)))
    have z1 : ((strB s).size == 0) = false := by rw [hsz]; have := hpos.out; simp; omega
    have z2 : (((strB s).size : Int) == 0) = false := by rw [hsz]; have := hpos.out; simp; omega
    have z3 : ((strB s).size = 0) = False := eq_false (by rw [hsz]; have := hpos.out; omega)
    clear h0
    go_enter Tryz.func68, Tryz.ntmps68
    go_wp2_with (go_at_call 138; refine Stop.out ?_)
    clear z1 z2 z3
    refine ⟨(l1BelowB_calls w0 w q hC'.out ((strB s).size : Int) (by rw [hsz]; have := hpos.out; omega) (by rw [hsz]; have := hl'.out; omega)).mono ?_⟩
    rintro e w1 ⟨v, rfl, ⟨x, rfl, hx⟩, hC1, hE1⟩
    obtain ⟨k, rfl⟩ := Int.eq_ofNat_of_zero_le hx.1
    have hk := Aside0.mk (show k < s.length by have := hx.2; rw [hsz] at this; omega)
    have hC1' := Aside0.mk hC1
    have hE1' := Aside0.mk hE1
    clear hC1 hE1 hx
    go_wp2_with (go_at_call 138; refine Stop.out ?_)
    refine ⟨(l1Below_calls w0 _ q hC1'.out 4 (by omega) (by omega)).mono ?_⟩
    rintro e w2 ⟨v, rfl, ⟨j, rfl, hj⟩, hC2, hE2⟩
    have hC2' := Aside0.mk hC2
    have hE2' := Aside0.mk (hE1'.out.trans hE2 fun _ _ h => h)
    have hj' := Aside0.mk hj
    have hkz : k < (strB s).size := by rw [hsz]; exact hk.out
    have hs1 : ∀ wx, (Instr.slice 9 (.string (strB s)) none (some (.int .i64 (k : Int))) none).run Tryz.prog wx = .ok (.string (strB (s.take k))) wx := fun wx => by
      rw [run_slice_string_h wx 9 (strB s) Tryz.underlying9 .i64 (k : Int) (by omega) (by omega)]
      rw [Int.toNat_natCast, strB_extract]; rfl
    have hs3 : ∀ wx, (Instr.slice 9 (.string (strB s)) (some (.int .i64 (k : Int))) none none).run Tryz.prog wx = .ok (.string (strB (s.drop k))) wx := fun wx => by
      rw [run_slice_string_l wx 9 (strB s) Tryz.underlying9 .i64 (k : Int) (by omega) (by omega)]
      rw [Int.toNat_natCast, strB_rest]
    have hs2 : ∀ wx, (Instr.slice 9 (.string (strB s)) (some (.int .i64 ((k : Int) + 1))) none none).run Tryz.prog wx = .ok (.string (strB (s.drop (k + 1)))) wx := fun wx => by
      rw [run_slice_string_l wx 9 (strB s) Tryz.underlying9 .i64 ((k : Int) + 1) (by omega) (by omega)]
      rw [show ((k : Int) + 1).toNat = k + 1 by omega, strB_rest]
    obtain ⟨a, ha⟩ : ∃ a, s.take k = a := ⟨_, rfl⟩
    obtain ⟨d, hd⟩ : ∃ d, s.drop k = d := ⟨_, rfl⟩
    obtain ⟨d1, hd1⟩ : ∃ d1, s.drop (k + 1) = d1 := ⟨_, rfl⟩
    have hlen := Aside0.mk (show a.length = k ∧ d.length = s.length - k ∧ d1.length = s.length - (k + 1) ∧ k < s.length by rw [← ha, ← hd, ← hd1]; have := hk.out; simp; omega)
    rw [ha] at hs1
    rw [hd] at hs3
    rw [hd1] at hs2
    have hsz' := Aside0.mk hsz
    clear hC2 hE2 hj ha hd hd1 hsz
    by_cases j0 : j = 0
    · subst j0
      have c1 := strB_append a d1
      have y1 := szOk (a := a) (b := d1) (by have := hlen.out; have := hl'.out; omega)
      have hwk : IntKind.i64.wrap ((k : Int) + 1) = (k : Int) + 1 := IntWalk.i64_in _ (by have := hk.out; have := hl'.out; omega)
      go_wp2
      refine Reg.region [(0,.L),(1,.L),(2,.L),(3,.L),(4,.L),(5,.L),(6,.L),(7,.L)] [8] (by kernel_rfl) (by kernel_rfl) ?_
      repeat first | refine sP ?_ | refine sS ?_ | refine sA ?_ | refine sL ?_ | refine sQ ?_ | refine sO ?_
      refine Reg.tail_ fun w3 hS => ?_
      have hS' := Aside0.mk hS
      clear hS
      go_wp2
      go_ret
      exact ⟨_, rfl, ⟨_, rfl, by have := hlen.out; simp; omega⟩, hC2'.out.next hS'.out, hE2'.out.then_on hS'.out⟩
    · have k0 : (j == 0) = false := by simpa using j0
      have k1 : (j = 0) = False := eq_false j0
      clear j0
      by_cases j1 : j = 1
      · subst j1
        have hap : ∀ u v, strB u ++ strB v = strB (u ++ v) := strB_append
        have hso : ∀ e, strOfNums [e] = strB [UInt8.ofNat e.toNat] := fun _ => rfl
        have hz1 : ∀ y, (9223372036854775807 < (strB a).size + (strB [y]).size) = False := fun y => szOk (by have := hlen.out; have := hl'.out; simp; omega)
        have hz2 : ∀ y, (9223372036854775807 < (strB (a ++ [y])).size + (strB d).size) = False := fun y => szOk (by have := hlen.out; have := hl'.out; simp; omega)
        go_wp2
        refine Reg.regionH (fun _ => True) (.r 0 (.r 1 (.r 2 (.r 3 (.r 9 (.r 10 (.r 11 (.n 4 (.r 5 (.n 6 (.leaf [7,8,12,13]))))))))))) 13 (fun a' a'' w' => MSp w0 w q s.length a'' w') (by kernel_rfl) (by kernel_rfl) trivial ?_ ?_
        · obtain ⟨u0, hu0⟩ : ∃ u0, ({ w2 with drawn := w2.drawn + 1 } : World) = u0 := ⟨_, rfl⟩
          have hS0 := Aside0.mk (show On w2 u0 from (hu0 ▸ on_draw w2))
          rw [hu0]
          clear hu0
          refine Reg.hR ?_
          refine Reg.hR ?_
          refine Reg.hR ?_
          refine Reg.hR ?_
          refine Reg.hR ?_
          refine Reg.hR ?_
          refine Reg.hR ?_
          refine Reg.hN ?_
          refine goesF 33 Tryz.func144 ((l1Byte_calls w0 u0 q (hC2'.out.next hS0.out)).mono ?_)
          rintro e u1 ⟨v, rfl, ⟨y, rfl, hy⟩, hC3, hE3⟩
          have hC3' := Aside0.mk hC3
          have hE3' := Aside0.mk ((hE2'.out.then_on hS0.out).trans hE3 fun _ _ h => h)
          clear hC3 hE3 hy
          refine ⟨_, rfl, trivial, ?_⟩
          simp only [Act.put, List.setIfInBounds_toArray, List.set_cons_zero, List.set_cons_succ]
          refine Reg.hR ?_
          refine Reg.hN ?_
          go_wp2
          refine ⟨trivial, ?_⟩
          refine Reg.hLeaf ?_
          have hcv := conv_str (lit_OB u1 (y % 256))
          refine Reg.tG ?_
          go_wp2
          refine ⟨trivial, ?_⟩
          clear hcv
          refine Reg.tG ?_
          go_wp2
          refine ⟨trivial, ?_⟩
          refine Reg.tG ?_
          go_wp2
          refine ⟨trivial, ?_⟩
          refine Reg.tE ?_
          go_wp2
          exact ⟨trivial, _, rfl, by have := hlen.out; simp; omega, rfl, hC3'.out.next (On.alloc (On.refl u1) _), hE3'.out.then_on (On.alloc (On.refl u1) _)⟩
        · skip
          intro a' w' hM
          obtain ⟨t, h4, hlt, hd, hCu, hEx⟩ := hM.out
          go_wp2
          refine bodyPost_ret (results_tmp (t := 4) rfl a'.tmps _ w') hd ?_
          exact ⟨_, rfl, ⟨t, h4, hlt⟩, hCu, hEx⟩
      · have k2 : (j == 1) = false := by simpa using j1
        have k3 : (j = 1) = False := eq_false j1
        clear j1
        by_cases j2 : j = 2
        · subst j2
          go_wp2
          go_ret
          exact ⟨_, rfl, ⟨_, rfl, by have := hlen.out; omega⟩, hC2'.out, hE2'.out⟩
        · have k4 : (j == 2) = false := by simpa using j2
          have k5 : (j = 2) = False := eq_false j2
          clear j2
          have hap : ∀ u v, strB u ++ strB v = strB (u ++ v) := strB_append
          have hso : ∀ e, strOfNums [e] = strB [UInt8.ofNat e.toNat] := fun _ => rfl
          have hz1 : ∀ y, (9223372036854775807 < (strB a).size + (strB [y]).size) = False := fun y => szOk (by have := hlen.out; have := hl'.out; simp; omega)
          have hz2 : ∀ y, (9223372036854775807 < (strB (a ++ [y])).size + (strB d1).size) = False := fun y => szOk (by have := hlen.out; have := hl'.out; simp; omega)
          have hwk : IntKind.i64.wrap ((k : Int) + 1) = (k : Int) + 1 := IntWalk.i64_in _ (by have := hk.out; have := hl'.out; omega)
          obtain ⟨bk, hbk⟩ : ∃ bk, s[k]'hk.out = bk := ⟨_, rfl⟩
          have hat := strB_at s k hk.out bk hbk
          clear hbk
          go_wp2
          refine Reg.regionH (fun _ => True) (.r 0 (.r 1 (.r 2 (.r 3 (.r 4 (.r 5 (.r 6 (.r 7 (.r 15 (.r 16 (.r 17 (.r 18 (.n 8 (.r 9 (.r 10 (.r 11 (.n 12 (.leaf [13,14,19,20])))))))))))))))))) 20 (fun a' a'' w' => MSp w0 w q s.length a'' w') (by kernel_rfl) (by kernel_rfl) trivial ?_ ?_
          · obtain ⟨u0, hu0⟩ : ∃ u0, ({ w2 with drawn := w2.drawn + 1 } : World) = u0 := ⟨_, rfl⟩
            have hS0 := Aside0.mk (show On w2 u0 from (hu0 ▸ on_draw w2))
            rw [hu0]
            clear hu0
            refine Reg.hR ?_
            refine Reg.hR ?_
            refine Reg.hR ?_
            refine Reg.hR ?_
            refine Reg.hR ?_
            refine Reg.hR ?_
            refine Reg.hR ?_
            refine Reg.hR ?_
            refine Reg.hR ?_
            refine Reg.hR ?_
            refine Reg.hR ?_
            refine Reg.hR ?_
            refine Reg.hN ?_
            refine goesF 55 Tryz.func138 ((l1Below_calls w0 u0 q (hC2'.out.next hS0.out) 255 (by omega) (by omega)).mono ?_)
            rintro e u1 ⟨v, rfl, ⟨y, rfl, hy⟩, hC3, hE3⟩
            have hwy : IntKind.i64.wrap (1 + y) = 1 + y := IntWalk.i64_in _ (by omega)
            have hwz : wrap64 (1 + y) = 1 + y := IntWalk.wrap64_in _ (by omega)
            have hC3' := Aside0.mk hC3
            have hE3' := Aside0.mk ((hE2'.out.then_on hS0.out).trans hE3 fun _ _ h => h)
            clear hC3 hE3 hy
            refine ⟨_, rfl, trivial, ?_⟩
            simp only [Act.put, List.setIfInBounds_toArray, List.set_cons_zero, List.set_cons_succ]
            refine Reg.hR ?_
            refine Reg.hR ?_
            refine Reg.hR ?_
            refine Reg.hN ?_
            go_wp2
            refine ⟨trivial, ?_⟩
            refine Reg.hLeaf ?_
            have hcv := fun e => conv_str (lit_OB u1 e)
            refine Reg.tG ?_
            go_wp2
            refine ⟨trivial, ?_⟩
            clear hcv
            refine Reg.tG ?_
            go_wp2
            refine ⟨trivial, ?_⟩
            refine Reg.tG ?_
            go_wp2
            refine ⟨trivial, ?_⟩
            refine Reg.tE ?_
            go_wp2
            exact ⟨trivial, _, rfl, by have := hlen.out; simp; omega, rfl, hC3'.out.next (On.alloc (On.refl u1) _), hE3'.out.then_on (On.alloc (On.refl u1) _)⟩
          · skip
            intro a' w' hM
            obtain ⟨t, h4, hlt, hd, hCu, hEx⟩ := hM.out
            go_wp2
            refine bodyPost_ret (results_tmp (t := 4) rfl a'.tmps _ w') hd ?_
            exact ⟨_, rfl, ⟨t, h4, hlt⟩, hCu, hEx⟩
end Go.Proofs.YtgemaohdlibboaaGreatDoor.H
/- Walks: the draws of instances. What is told: sizes and ranges. No condition. -/
namespace Go.Proofs.YtgemaohdlibboaaGreatDoor.H
open Go Go.RowKit Go.Proofs.YtgemaohdlibboaaGreatDoorW.PrintWords Go.Proofs.YtgemaohdlibboaaGreatDoorW.PrintLast
open Go.Proofs.YtgemaohdlibboaaGreatDoor.Reg (On on_draw)
set_option maxHeartbeats 4000000
set_option maxRecDepth 100000
set_option linter.unusedVariables false
set_option linter.unusedSimpArgs false

theorem putF_le (l : List Fct) (x : Fct) : (putF l x).length ≤ l.length + 1 := by
  induction l with
  | nil => simp [putF]
  | cons y r ih => unfold putF; split <;> (try split) <;> simp <;> omega
theorem RS.start {S : Nat → Prop} {w : World} {lo : Nat} {A : Option Addr} {n c : Nat} {rs : List Rel} (h : OR w lo (.slice A n c) rs) (hS : ∀ b, lo ≤ b → b < w.heap.size → ¬ S b) : RS S w (.agg #[.slice A n c, .slice none 0 0]) rs [] := by
  obtain rfl := (OR.same h).1
  refine ⟨A, c, none, 0, [], rfl, fun w' k => ?_⟩
  have h3 := own_ex h k (fun i hi e => hS i (own_base h i hi) (own_lt h i hi) e)
  exact ⟨(OR.same h3).2, (OH.rh (World.ownsRow_nil w' 0 60 2 : OH w' 0 (.slice none 0 0) [])).2, Reads.nil _⟩
theorem RS.parts {S : Nat → Prop} {w : World} {A0 A1 : Option Addr} {n0 n1 c0 c1 : Nat} {rs : List Rel} {fs : List Fct} (h : RS S w (.agg #[.slice A0 n0 c0, .slice A1 n1 c1]) rs fs) : n0 = rs.length ∧ n1 = fs.length ∧ ∃ hs, ∀ w', Ex S w w' → Rels w' A0 c0 rs ∧ RH w' A1 c1 hs ∧ Reads w' hs fs := by
  obtain ⟨B0, d0, B1, d1, hs, e, h⟩ := h.out
  injection e with e
  have e' := congrArg Array.toList e
  simp only [List.cons.injEq, Value.slice.injEq, and_true] at e'
  obtain ⟨⟨rfl, rfl, rfl⟩, rfl, rfl, rfl⟩ := e'
  exact ⟨rfl, rfl, hs, h⟩
theorem l5Target_calls (w0 w : World) (q : Nat) (hC : Cu w0 w q) (a : Int) (ha0 : 0 ≤ a) (ha1 : a ≤ 200) (m : Int) (h0 : 0 ≤ m) (h2 : m ≤ 256) :
    Calls Tryz.prog 136 #[.pointer (some ⟨q, 0, none⟩), .int .i64 a, .int .i64 m] w (Dr w0 w q fun v w' => ∃ fs, OIn w' w.heap.size v sigs fs ∧ Asc fs ∧ (fs.length : Int) ≤ a ∧ ∀ f ∈ fs, f.2.length ≤ 2) := by
  have hC' := Aside0.mk hC
  have hqw := Aside0.mk hC.lt
  have hq0 := Aside0.mk hC.lo
  have hA' := Aside0.mk (And.intro ha0 ha1)
  have hm' := Aside0.mk (And.intro h0 h2)
  have hb0 := Aside0.mk (On.alloc (On.refl w) (.cells #[.slice none 0 0, .slice none 0 0] 25 (0, 0)))
  have hl0 := Aside0.mk (loc_new w #[.slice none 0 0, .slice none 0 0] 25)
  have hwr : wrap64 (a + 1) = a + 1 := IntWalk.wrap64_in _ (by omega)
  clear hC ha0 ha1 h0 h2
  go_enter Tryz.func136, Tryz.ntmps136
  go_wp2_with (go_at_call 115; refine Stop.out ?_)
  refine ⟨(l3Sigs_calls _).mono ?_⟩
  rintro e w1 ⟨v, rfl, hR, hb1⟩
  obtain ⟨As, cs, rfl⟩ := own_slice hR
  have hR' := Aside0.mk hR
  have hb1' := Aside0.mk hb1
  have hl1 := Aside0.mk (blk_below hl0.out hb1)
  have hsz := Aside0.mk (show w.heap.size + 1 ≤ w1.heap.size by have := blk_lt hl1.out; omega)
  have hfill := alloc_fill w1
  clear hR hb1
  go_wp2_with (go_at_call 138; refine Stop.out ?_)
  refine ⟨?_⟩
  clear hfill
  obtain ⟨wa, hwa⟩ : ∃ wa, w1.alloc (.cells #[.slice As sigs.length cs, .slice none 0 0] 25 (0, 0)) = wa := ⟨_, rfl⟩
  have hsa := Aside0.mk (show wa.heap.size = w1.heap.size + 1 from hwa ▸ by simp)
  have hl8 := Aside0.mk (show wa.heap[w1.heap.size]? = some (.cells #[.slice As sigs.length cs, .slice none 0 0] 25 (0, 0)) from hwa ▸ loc_new w1 _ _)
  have hba := Aside0.mk (show On w1 wa from hwa ▸ On.alloc (On.refl _) _)
  rw [hwa]
  clear hwa
  obtain ⟨g7, hg7⟩ : ∃ g7, w1.heap.size = g7 := ⟨_, rfl⟩
  rw [hg7] at hl8 hsz hsa ⊢
  have hba0 := Aside0.mk (hb0.out.trans (hb1'.out.trans hba.out))
  have hbl := Aside0.mk (show w1.heap.size = g7 from hg7)
  clear hg7
  refine (l1Below_calls w0 _ q (hC'.out.next hba0.out) (a + 1) (by have := hA'.out; omega) (by have := hA'.out; omega)).mono ?_
  rintro e w2 ⟨v, rfl, ⟨c0, rfl, hc0⟩, hC2, hE2⟩
  replace hc0 := Aside0.mk hc0
  have hC2' := Aside0.mk hC2
  have hE2' := Aside0.mk hE2
  have hl2 := Aside0.mk (blk_ex hE2 hl8.out (by have := hqw.out; have := hsz.out; omega))
  have hR2 := Aside0.mk (show RS (fun b => b = q ∨ b = g7) w2 (.agg #[.slice As sigs.length cs, .slice none 0 0]) sigs [] from RS.ex (RS.on (RS.start hR'.out (fun b h1 h2 h3 => by
    have := hqw.out; have := hbl.out; simp at h1; omega)) hba.out) (hE2.mono fun _ h => .inl h))
  clear hC2 hE2
  go_wp2
  go_loopw [8] (fun v8 wr => ∃ (c : Nat) (fs : List Fct) (A0 : Option Addr) (d0 : Nat) (A1 : Option Addr) (d1 : Nat), v8 = .int .i64 c ∧ wr.heap[g7]? = some (.cells #[.slice A0 sigs.length d0, .slice A1 fs.length d1] 25 (0, 0)) ∧ RS (fun b => b = q ∨ b = g7) wr (.agg #[.slice A0 sigs.length d0, .slice A1 fs.length d1]) sigs fs ∧ Asc fs ∧ (fs.length : Int) + (c : Int) ≤ a ∧ (∀ f ∈ fs, f.2.length ≤ 2) ∧ Cu w0 wr q ∧ Ex (fun b => b = q) w wr ∧ Ex (fun b => b = q ∨ b = g7) wa wr) (fun v8 _ => (intOf v8).toNat)
  case atStart => exact ⟨c0.toNat, [], As, cs, none, 0, by have := hc0.out; congr 1; omega, hl2.out, hR2.out, List.Pairwise.nil, by have := hc0.out; have := hA'.out; simp; omega, fun _ h => absurd h (by simp), hC2'.out, (Ex.of_on (S := fun b => b = q) hba0.out).trans hE2'.out fun _ _ h => h, hE2'.out.mono fun _ h => .inl h⟩
  case round =>
    obtain ⟨c, fs, A0, d0, A1, d1, rfl, hb7, hR, ha, hl, hl2, hC, hE, hEa⟩ := hrel
    have hb7' := Aside0.mk hb7
    have hRa := Aside0.mk hR
    have ha' := Aside0.mk ha
    have hl' := Aside0.mk hl
    have hl2' := Aside0.mk hl2
    have hC1 := Aside0.mk hC
    have hE' := Aside0.mk hE
    have hEa' := Aside0.mk hEa
    have hd0 := blk_cell hb7 0
    have hd1 := blk_cell hb7 1
    clear hb7 hR ha hl hl2 hC hE hEa
    by_cases hc : 0 < c
    · have hc' := Aside0.mk hc
      have hcb : decide ((0 : Int) < (c : Int)) = true := decide_eq_true (by omega)
      have hcn : decide (0 < c) = true := decide_eq_true hc
      clear hc
      go_wp2
      refine Reg.regionG (fun w' => w'.heap[g7]? = some (.cells #[.slice A0 sigs.length d0, .slice A1 fs.length d1] 25 (0, 0))) [0,1,2,5] [3,4,6,7,8] 8 (by kernel_rfl) (by kernel_rfl) hb7'.out ?_
      repeat refine Reg.sG ?_
      refine Reg.startG ?_
      obtain ⟨w3, hw3⟩ : ∃ w3, ({ wr with drawn := wr.drawn + 1 } : World) = w3 := ⟨_, rfl⟩
      have hS3 := Aside0.mk (show On wr w3 from (hw3 ▸ on_draw wr))
      rw [hw3]
      clear hw3 hd0 hd1
      refine Reg.tG ?_
      go_wp2_with (go_at_call 138; refine Stop.out ?_)
      refine ⟨(l1Below_calls w0 _ q (hC1.out.next hS3.out) 3 (by omega) (by omega)).mono ?_⟩
      rintro e w4 ⟨v, rfl, ⟨x, rfl, hx⟩, hC4, hE4⟩
      obtain ⟨y, rfl⟩ := Int.eq_ofNat_of_zero_le hx.1
      obtain ⟨k, hk⟩ : ∃ k, 2 + y = k := ⟨_, rfl⟩
      have hkb := Aside0.mk (show k < 5 by omega)
      have hw2 : wrap64 (2 + (y : Int)) = (k : Int) := by rw [IntWalk.wrap64_in _ (by omega)]; omega
      have hC4' := Aside0.mk hC4
      have hE4' := Aside0.mk ((Ex.of_on (S := fun b => b = q) hS3.out).trans hE4 fun _ _ h => h)
      have hb4 := Aside0.mk (blk_ex hE4'.out hb7'.out (by have := hqw.out; have := hsz.out; omega))
      clear hC4 hE4 hx hk
      go_wp2
      refine ⟨hb4.out, ?_⟩
      refine Reg.tG ?_
      go_wp2
      refine ⟨hb4.out, ?_⟩
      refine Reg.tG ?_
      go_wp2_with (go_at_call 170; refine Stop.out ?_)
      refine ⟨(l4Fact_calls w0 _ q hC4'.out k hkb.out m hm'.out.1 hm'.out.2).mono ?_⟩
      rintro e w5 ⟨v, rfl, ⟨f, hO5, hf1, hf2⟩, hC5, hE5⟩
      obtain ⟨v5, rfl, hO5, hI5⟩ := hO5.out
      obtain ⟨A5, c5, rfl⟩ := own_slice hO5
      have hI5' := Aside0.mk (OI.same hO5 hI5).2
      have hf2' := Aside0.mk (show f.2.length ≤ 2 by rw [hf2]; exact (arN_in k).2)
      have hC5' := Aside0.mk hC5
      have hE5' := Aside0.mk (hE4'.out.trans hE5 fun _ _ h => h)
      have hb5 := Aside0.mk (blk_ex hE5'.out hb7'.out (by have := hqw.out; have := hsz.out; omega))
      clear hC5 hE5 hf1 hf2 hO5 hI5
      go_wp2
      refine ⟨hb5.out, ?_⟩
      refine Reg.tG ?_
      go_wp2_with (go_at_call 81; refine Stop.out ?_)
      obtain ⟨_, _, hs, hall⟩ := (RS.ex hRa.out (hE5'.out.mono fun _ h => .inl h)).parts
      refine ⟨(l5PutS_calls (fun b => b = q ∨ b = g7) _ A0 d0 A1 d1 hs sigs fs hall (fun b hb => by have := blk_lt hb5.out; have := hC5'.out.lt; rcases hb with h | h <;> omega) A5 c5 f hI5'.out (by have := hl'.out; have := hA'.out; omega) (by have := hf2'.out; omega) ha'.out).mono ?_⟩
      rintro e w6 ⟨v6, rfl, hR6, hb6⟩
      obtain ⟨fs', hfs⟩ : ∃ fs', putF fs f = fs' := ⟨_, rfl⟩
      rw [hfs] at hR6
      have hR6' := Aside0.mk hR6
      obtain ⟨B0, e0, B1, e1, hs', rfl, -⟩ := hR6.out
      have ha6 := Aside0.mk (show Asc fs' from hfs ▸ putF_asc f fs ha'.out)
      have hl6 := Aside0.mk (show fs'.length ≤ fs.length + 1 from hfs ▸ putF_le fs f)
      have hm6 := Aside0.mk (show ∀ g ∈ fs', g.2.length ≤ 2 by
        rw [← hfs]; intro g hg; rcases (mem_putF f g fs).1 hg with rfl | h
        · exact hf2'.out
        · exact hl2'.out g h)
      have hb6' := Aside0.mk hb6
      have hbl6 := Aside0.mk (blk_below hb5.out hb6)
      have hcr := blk_cell hbl6.out
      have hfr := blk_frozen hbl6.out
      clear hR6 hfs hb6
      go_wp2
      refine ⟨hbl6.out, ?_⟩
      refine Reg.tE ?_
      go_wp2
      have EE := (Ex.set w6 ⟨g7, 0, none⟩ (.slice B0 sigs.length e0)).trans (Ex.set _ ⟨g7, 1, none⟩ (.slice B1 fs'.length e1)) (fun _ _ h => h)
      have hwc : wrap64 ((c : Int) - 1) = ((c - 1 : Nat) : Int) := by have := hc'.out; have := hl'.out; have := hA'.out; rw [IntWalk.wrap64_in _ (by omega)]; omega
      have hs1 := hsz.out
      have hq1 := hqw.out
      have hq2 := hq0.out
      refine ⟨⟨c - 1, fs', B0, e0, B1, e1, by rw [hwc], blk_set (blk_set hbl6.out 0 _) 1 _, RS.ex hR6'.out (EE.mono fun _ h => .inr h), ha6.out, by have := hc'.out; have := hl'.out; have := hA'.out; have := hl6.out; omega, hm6.out,
        (hC5'.out.next hb6'.out).ex EE (fun b hb => by have e' : b = g7 := hb; omega), ((hE'.out.trans hE5'.out fun _ _ h => h).then_on hb6'.out).trans EE (fun i hi h => by have e' : i = g7 := h; omega),
        ((hEa'.out.trans hE5'.out fun _ _ h => .inl h).then_on hb6'.out).trans EE (fun i hi h => .inr h)⟩, ?_⟩
      rw [hwc]
      have := hc'.out
      simp [intOf]
      omega
    · have hcb : decide ((0 : Int) < (c : Int)) = false := decide_eq_false (by omega)
      have hcn : decide (0 < c) = false := decide_eq_false hc
      clear hc
      go_wp2_with (go_at_call 69; refine Stop.out ?_)
      obtain ⟨_, _, hs, hall⟩ := hRa.out.parts
      obtain ⟨h1, h2, h3⟩ := hall wr (Ex.refl _ _)
      refine ⟨(l5Copy_calls _ A0 d0 A1 d1 sigs fs h1 (h2.fcts h3) (by show (5 : Nat) ≤ _; omega) (by have := hl'.out; have := hA'.out; omega) (fun f hf => by have := hl2'.out f hf; omega)).mono ?_⟩
      rintro e w7 ⟨v7, rfl, hI0, hb7x⟩
      obtain ⟨a1, a2, a3, a4, a5, a6, rfl⟩ := hI0.read.shape
      have hI := Aside0.mk hI0
      have hb7a := Aside0.mk hb7x
      have hr7 := Aside0.mk (blk_below (blk_ex hEa'.out (blk_below hl1.out hba.out) (by have := hqw.out; have := hsz.out; omega)) hb7x)
      have hd0 := blk_cell hr7.out
      have hfr := blk_frozen hr7.out
      clear hI0 hb7x h1 h2 h3 hall
      go_wp2
      refine bodyPost_ret (retI rfl rfl (g := w.heap.size) (blk_set (blk_set hr7.out 0 _) 1 _) rfl) rfl ?_
      have EE := (Ex.set w7 ⟨w.heap.size, 0, none⟩ (.slice a1 a2 a3)).trans (Ex.set _ ⟨w.heap.size, 1, none⟩ (.slice a4 a5 a6)) (fun _ _ h => h)
      have hlo : w.heap.size < wr.heap.size := blk_lt (blk_ex hEa'.out (blk_below hl1.out hba.out) (by have := hqw.out; have := hsz.out; omega))
      have hq1 := hqw.out
      have hq2 := hq0.out
      exact ⟨_, rfl, ⟨fs, OIn.lower (OIn.set (OIn.set hI.out hlo _) hlo _) (Nat.le_of_lt hlo), ha'.out, by have := hl'.out; have := hA'.out; omega, hl2'.out⟩,
        (hC1.out.next hb7a.out).ex EE (fun b hb => by have e' : b = w.heap.size := hb; omega), (hE'.out.then_on hb7a.out).trans EE (fun i hi h => by have e' : i = w.heap.size := h; omega)⟩
end Go.Proofs.YtgemaohdlibboaaGreatDoor.H
/- Walks: the draws of instances, once more. What is told: sizes and ranges. No condition. -/
namespace Go.Proofs.YtgemaohdlibboaaGreatDoor.H
open Go Go.RowKit Go.Proofs.YtgemaohdlibboaaGreatDoorW.PrintWords Go.Proofs.YtgemaohdlibboaaGreatDoorW.PrintLast
open Go.Proofs.YtgemaohdlibboaaGreatDoor.Reg (On on_draw)
set_option maxHeartbeats 4000000
set_option maxRecDepth 100000
set_option linter.unusedVariables false
set_option linter.unusedSimpArgs false

theorem l5Source_calls (w0 w : World) (q : Nat) (hC : Cu w0 w q) (a : Int) (ha0 : 0 ≤ a) (ha1 : a ≤ 200) :
    Calls Tryz.prog 137 #[.pointer (some ⟨q, 0, none⟩), .int .i64 a] w (Dr w0 w q fun v w' => ∃ fs, OIn w' w.heap.size v sigs fs ∧ Asc fs ∧ (fs.length : Int) ≤ a ∧ ∀ f ∈ fs, f.2.length ≤ 2) := by
  have hC' := Aside0.mk hC
  have hqw := Aside0.mk hC.lt
  have hq0 := Aside0.mk hC.lo
  have hA' := Aside0.mk (And.intro ha0 ha1)
  have hb0 := Aside0.mk (On.alloc (On.refl w) (.cells #[.slice none 0 0, .slice none 0 0] 25 (0, 0)))
  have hl0 := Aside0.mk (loc_new w #[.slice none 0 0, .slice none 0 0] 25)
  have hwr : wrap64 (a + 1) = a + 1 := IntWalk.wrap64_in _ (by omega)
  clear hC ha0 ha1
  go_enter Tryz.func137, Tryz.ntmps137
  go_wp2_with (go_at_call 115; refine Stop.out ?_)
  refine ⟨(l3Sigs_calls _).mono ?_⟩
  rintro e w1 ⟨v, rfl, hR, hb1⟩
  obtain ⟨As, cs, rfl⟩ := own_slice hR
  have hR' := Aside0.mk hR
  have hb1' := Aside0.mk hb1
  have hl1 := Aside0.mk (blk_below hl0.out hb1)
  have hsz := Aside0.mk (show w.heap.size + 1 ≤ w1.heap.size by have := blk_lt hl1.out; omega)
  have hfill := alloc_fill w1
  clear hR hb1
  go_wp2_with (go_at_call 138; refine Stop.out ?_)
  refine ⟨?_⟩
  clear hfill
  obtain ⟨wa, hwa⟩ : ∃ wa, w1.alloc (.cells #[.slice As sigs.length cs, .slice none 0 0] 25 (0, 0)) = wa := ⟨_, rfl⟩
  have hsa := Aside0.mk (show wa.heap.size = w1.heap.size + 1 from hwa ▸ by simp)
  have hl8 := Aside0.mk (show wa.heap[w1.heap.size]? = some (.cells #[.slice As sigs.length cs, .slice none 0 0] 25 (0, 0)) from hwa ▸ loc_new w1 _ _)
  have hba := Aside0.mk (show On w1 wa from hwa ▸ On.alloc (On.refl _) _)
  rw [hwa]
  clear hwa
  obtain ⟨g7, hg7⟩ : ∃ g7, w1.heap.size = g7 := ⟨_, rfl⟩
  rw [hg7] at hl8 hsz hsa ⊢
  have hba0 := Aside0.mk (hb0.out.trans (hb1'.out.trans hba.out))
  have hbl := Aside0.mk (show w1.heap.size = g7 from hg7)
  clear hg7
  refine (l1Below_calls w0 _ q (hC'.out.next hba0.out) (a + 1) (by have := hA'.out; omega) (by have := hA'.out; omega)).mono ?_
  rintro e w2 ⟨v, rfl, ⟨c0, rfl, hc0⟩, hC2, hE2⟩
  replace hc0 := Aside0.mk hc0
  have hC2' := Aside0.mk hC2
  have hE2' := Aside0.mk hE2
  have hl2 := Aside0.mk (blk_ex hE2 hl8.out (by have := hqw.out; have := hsz.out; omega))
  have hR2 := Aside0.mk (show RS (fun b => b = q ∨ b = g7) w2 (.agg #[.slice As sigs.length cs, .slice none 0 0]) sigs [] from RS.ex (RS.on (RS.start hR'.out (fun b h1 h2 h3 => by
    have := hqw.out; have := hbl.out; simp at h1; omega)) hba.out) (hE2.mono fun _ h => .inl h))
  clear hC2 hE2
  go_wp2
  go_loopw [6] (fun v8 wr => ∃ (c : Nat) (fs : List Fct) (A0 : Option Addr) (d0 : Nat) (A1 : Option Addr) (d1 : Nat), v8 = .int .i64 c ∧ wr.heap[g7]? = some (.cells #[.slice A0 sigs.length d0, .slice A1 fs.length d1] 25 (0, 0)) ∧ RS (fun b => b = q ∨ b = g7) wr (.agg #[.slice A0 sigs.length d0, .slice A1 fs.length d1]) sigs fs ∧ Asc fs ∧ (fs.length : Int) + (c : Int) ≤ a ∧ (∀ f ∈ fs, f.2.length ≤ 2) ∧ Cu w0 wr q ∧ Ex (fun b => b = q) w wr ∧ Ex (fun b => b = q ∨ b = g7) wa wr) (fun v8 _ => (intOf v8).toNat)
  case atStart => exact ⟨c0.toNat, [], As, cs, none, 0, by have := hc0.out; congr 1; omega, hl2.out, hR2.out, List.Pairwise.nil, by have := hc0.out; have := hA'.out; simp; omega, fun _ h => absurd h (by simp), hC2'.out, (Ex.of_on (S := fun b => b = q) hba0.out).trans hE2'.out fun _ _ h => h, hE2'.out.mono fun _ h => .inl h⟩
  case round =>
    obtain ⟨c, fs, A0, d0, A1, d1, rfl, hb7, hR, ha, hl, hl2, hC, hE, hEa⟩ := hrel
    have hb7' := Aside0.mk hb7
    have hRa := Aside0.mk hR
    have ha' := Aside0.mk ha
    have hl' := Aside0.mk hl
    have hl2' := Aside0.mk hl2
    have hC1 := Aside0.mk hC
    have hE' := Aside0.mk hE
    have hEa' := Aside0.mk hEa
    have hd0 := blk_cell hb7 0
    have hd1 := blk_cell hb7 1
    clear hb7 hR ha hl hl2 hC hE hEa
    by_cases hc : 0 < c
    · have hc' := Aside0.mk hc
      have hcb : decide ((0 : Int) < (c : Int)) = true := decide_eq_true (by omega)
      have hcn : decide (0 < c) = true := decide_eq_true hc
      clear hc
      go_wp2
      refine Reg.regionG (fun w' => w'.heap[g7]? = some (.cells #[.slice A0 sigs.length d0, .slice A1 fs.length d1] 25 (0, 0))) [0,1,2] [3,4,5,6] 6 (by kernel_rfl) (by kernel_rfl) hb7'.out ?_
      repeat refine Reg.sG ?_
      refine Reg.startG ?_
      obtain ⟨w3, hw3⟩ : ∃ w3, ({ wr with drawn := wr.drawn + 1 } : World) = w3 := ⟨_, rfl⟩
      have hS3 := Aside0.mk (show On wr w3 from (hw3 ▸ on_draw wr))
      rw [hw3]
      clear hw3 hd0 hd1
      refine Reg.tG ?_
      go_wp2_with (go_at_call 138; refine Stop.out ?_)
      refine ⟨(l1Below_calls w0 _ q (hC1.out.next hS3.out) 2 (by omega) (by omega)).mono ?_⟩
      rintro e w4 ⟨v, rfl, ⟨x, rfl, hx⟩, hC4, hE4⟩
      obtain ⟨y, rfl⟩ := Int.eq_ofNat_of_zero_le hx.1
      have hkb := Aside0.mk (show y < 5 by omega)
      have hC4' := Aside0.mk hC4
      have hE4' := Aside0.mk ((Ex.of_on (S := fun b => b = q) hS3.out).trans hE4 fun _ _ h => h)
      have hb4 := Aside0.mk (blk_ex hE4'.out hb7'.out (by have := hqw.out; have := hsz.out; omega))
      clear hC4 hE4 hx
      go_wp2
      refine ⟨hb4.out, ?_⟩
      refine Reg.tG ?_
      go_wp2_with (go_at_call 170; refine Stop.out ?_)
      refine ⟨(l4Fact_calls w0 _ q hC4'.out y hkb.out 0 (by omega) (by omega)).mono ?_⟩
      rintro e w5 ⟨v, rfl, ⟨f, hO5, hf1, hf2⟩, hC5, hE5⟩
      obtain ⟨v5, rfl, hO5, hI5⟩ := hO5.out
      obtain ⟨A5, c5, rfl⟩ := own_slice hO5
      have hI5' := Aside0.mk (OI.same hO5 hI5).2
      have hf2' := Aside0.mk (show f.2.length ≤ 2 by rw [hf2]; exact (arN_in _).2)
      have hC5' := Aside0.mk hC5
      have hE5' := Aside0.mk (hE4'.out.trans hE5 fun _ _ h => h)
      have hb5 := Aside0.mk (blk_ex hE5'.out hb7'.out (by have := hqw.out; have := hsz.out; omega))
      clear hC5 hE5 hf1 hf2 hO5 hI5
      go_wp2
      refine ⟨hb5.out, ?_⟩
      refine Reg.tG ?_
      go_wp2_with (go_at_call 81; refine Stop.out ?_)
      obtain ⟨_, _, hs, hall⟩ := (RS.ex hRa.out (hE5'.out.mono fun _ h => .inl h)).parts
      refine ⟨(l5PutS_calls (fun b => b = q ∨ b = g7) _ A0 d0 A1 d1 hs sigs fs hall (fun b hb => by have := blk_lt hb5.out; have := hC5'.out.lt; rcases hb with h | h <;> omega) A5 c5 f hI5'.out (by have := hl'.out; have := hA'.out; omega) (by have := hf2'.out; omega) ha'.out).mono ?_⟩
      rintro e w6 ⟨v6, rfl, hR6, hb6⟩
      obtain ⟨fs', hfs⟩ : ∃ fs', putF fs f = fs' := ⟨_, rfl⟩
      rw [hfs] at hR6
      have hR6' := Aside0.mk hR6
      obtain ⟨B0, e0, B1, e1, hs', rfl, -⟩ := hR6.out
      have ha6 := Aside0.mk (show Asc fs' from hfs ▸ putF_asc f fs ha'.out)
      have hl6 := Aside0.mk (show fs'.length ≤ fs.length + 1 from hfs ▸ putF_le fs f)
      have hm6 := Aside0.mk (show ∀ g ∈ fs', g.2.length ≤ 2 by
        rw [← hfs]; intro g hg; rcases (mem_putF f g fs).1 hg with rfl | h
        · exact hf2'.out
        · exact hl2'.out g h)
      have hb6' := Aside0.mk hb6
      have hbl6 := Aside0.mk (blk_below hb5.out hb6)
      have hcr := blk_cell hbl6.out
      have hfr := blk_frozen hbl6.out
      clear hR6 hfs hb6
      go_wp2
      refine ⟨hbl6.out, ?_⟩
      refine Reg.tE ?_
      go_wp2
      have EE := (Ex.set w6 ⟨g7, 0, none⟩ (.slice B0 sigs.length e0)).trans (Ex.set _ ⟨g7, 1, none⟩ (.slice B1 fs'.length e1)) (fun _ _ h => h)
      have hwc : wrap64 ((c : Int) - 1) = ((c - 1 : Nat) : Int) := by have := hc'.out; have := hl'.out; have := hA'.out; rw [IntWalk.wrap64_in _ (by omega)]; omega
      have hs1 := hsz.out
      have hq1 := hqw.out
      have hq2 := hq0.out
      refine ⟨⟨c - 1, fs', B0, e0, B1, e1, by rw [hwc], blk_set (blk_set hbl6.out 0 _) 1 _, RS.ex hR6'.out (EE.mono fun _ h => .inr h), ha6.out, by have := hc'.out; have := hl'.out; have := hA'.out; have := hl6.out; omega, hm6.out,
        (hC5'.out.next hb6'.out).ex EE (fun b hb => by have e' : b = g7 := hb; omega), ((hE'.out.trans hE5'.out fun _ _ h => h).then_on hb6'.out).trans EE (fun i hi h => by have e' : i = g7 := h; omega),
        ((hEa'.out.trans hE5'.out fun _ _ h => .inl h).then_on hb6'.out).trans EE (fun i hi h => .inr h)⟩, ?_⟩
      rw [hwc]
      have := hc'.out
      simp [intOf]
      omega
    · have hcb : decide ((0 : Int) < (c : Int)) = false := decide_eq_false (by omega)
      have hcn : decide (0 < c) = false := decide_eq_false hc
      clear hc
      go_wp2_with (go_at_call 69; refine Stop.out ?_)
      obtain ⟨_, _, hs, hall⟩ := hRa.out.parts
      obtain ⟨h1, h2, h3⟩ := hall wr (Ex.refl _ _)
      refine ⟨(l5Copy_calls _ A0 d0 A1 d1 sigs fs h1 (h2.fcts h3) (by show (5 : Nat) ≤ _; omega) (by have := hl'.out; have := hA'.out; omega) (fun f hf => by have := hl2'.out f hf; omega)).mono ?_⟩
      rintro e w7 ⟨v7, rfl, hI0, hb7x⟩
      obtain ⟨a1, a2, a3, a4, a5, a6, rfl⟩ := hI0.read.shape
      have hI := Aside0.mk hI0
      have hb7a := Aside0.mk hb7x
      have hr7 := Aside0.mk (blk_below (blk_ex hEa'.out (blk_below hl1.out hba.out) (by have := hqw.out; have := hsz.out; omega)) hb7x)
      have hd0 := blk_cell hr7.out
      have hfr := blk_frozen hr7.out
      clear hI0 hb7x h1 h2 h3 hall
      go_wp2
      refine bodyPost_ret (retI rfl rfl (g := w.heap.size) (blk_set (blk_set hr7.out 0 _) 1 _) rfl) rfl ?_
      have EE := (Ex.set w7 ⟨w.heap.size, 0, none⟩ (.slice a1 a2 a3)).trans (Ex.set _ ⟨w.heap.size, 1, none⟩ (.slice a4 a5 a6)) (fun _ _ h => h)
      have hlo : w.heap.size < wr.heap.size := blk_lt (blk_ex hEa'.out (blk_below hl1.out hba.out) (by have := hqw.out; have := hsz.out; omega))
      have hq1 := hqw.out
      have hq2 := hq0.out
      exact ⟨_, rfl, ⟨fs, OIn.lower (OIn.set (OIn.set hI.out hlo _) hlo _) (Nat.le_of_lt hlo), ha'.out, by have := hl'.out; have := hA'.out; omega, hl2'.out⟩,
        (hC1.out.next hb7a.out).ex EE (fun b hb => by have e' : b = w.heap.size := hb; omega), (hE'.out.then_on hb7a.out).trans EE (fun i hi h => by have e' : i = w.heap.size := h; omega)⟩
end Go.Proofs.YtgemaohdlibboaaGreatDoor.H
/- Walks: the draw of any fact. What is told: sizes and ranges. No condition. -/
namespace Go.Proofs.YtgemaohdlibboaaGreatDoor.H
open Go Go.RowKit Go.Proofs.YtgemaohdlibboaaGreatDoorW.PrintWords Go.Proofs.YtgemaohdlibboaaGreatDoorW.PrintLast
open Go.Proofs.YtgemaohdlibboaaGreatDoor.Reg (On on_draw)
set_option maxHeartbeats 4000000
set_option maxRecDepth 100000
set_option linter.unusedVariables false
set_option linter.unusedSimpArgs false

/-- The first number of a row stored. -/
theorem OI.set0 {W : World} {lo : Nat} {A : Option Addr} {n c : Nat} {y : Int} {ys : List Int} (h : OI W lo (.slice A n c) (y :: ys)) : ∃ g, A = some ⟨g, 0, none⟩ ∧ lo ≤ g ∧ g < W.heap.size ∧ (∃ z, W.cell? ⟨g, 0, none⟩ = some z) ∧ W.frozen? ⟨g, 0, none⟩ = false ∧ ∀ x, OI (W.setCell ⟨g, 0, none⟩ (.int .i64 x)) lo (.slice A n c) (x :: ys) := by
  have hx := h.1
  rcases h.2 with ⟨h', hn⟩ | ⟨g, cap, cur, h', hg, hh, hnc, hcm, hcs, htk⟩
  · simp at hn
  · injection h' with e1 e2 e3
    subst e1 e2 e3
    refine ⟨g, rfl, hg, own_lt h g rfl, ?_, own_frozen h 0, fun x => ?_⟩
    · obtain ⟨z, hz⟩ := own_some h 0 (by simp)
      exact ⟨z, hz⟩
    · have := (h.stored 0 (.int .i64 x)).1
      exact this
theorem fact_end {w0 w wz : World} {q : Nat} {rz : Int} {Az : Option Addr} {n cz : Nat} {zs : List Int} (hqw : q < w.heap.size) (hq0 : w0.heap.size ≤ q) (hO : OI wz (w.heap.size + 1) (.slice Az n cz) zs) (hI : InR zs) (hl : zs.length ≤ 3) (hC : Cu w0 wz q) (hE : Ex (fun b => b = q) w wz) :
    Dr w0 w q (fun v w' => ∃ f : Fct, OFa w' w.heap.size v f ∧ f.2.length ≤ 3) (.returned (.agg #[.int .i64 rz, .slice Az n cz])) ((wz.setCell ⟨w.heap.size, 0, none⟩ (.int .i64 rz)).setCell ⟨w.heap.size, 1, none⟩ (.slice Az n cz)) := by
  have EE := (Ex.set wz ⟨w.heap.size, 0, none⟩ (.int .i64 rz)).trans (Ex.set _ ⟨w.heap.size, 1, none⟩ (.slice Az n cz)) (fun _ _ h => h)
  exact ⟨_, rfl, ⟨(rz, zs), ⟨_, rfl, own_lower (own_ex hO EE (fun i hi e => by have := own_base hO i hi; have e' : i = w.heap.size := e; omega)) (by omega), hI⟩, hl⟩,
    hC.ex EE (fun b hb => by have e' : b = w.heap.size := hb; omega), hE.trans EE (fun i hi h => by have e' : i = w.heap.size := h; omega)⟩
theorem l4Any_calls (w0 w : World) (q : Nat) (hC : Cu w0 w q) :
    Calls Tryz.prog 116 #[.pointer (some ⟨q, 0, none⟩)] w (Dr w0 w q fun v w' => ∃ f : Fct, OFa w' w.heap.size v f ∧ f.2.length ≤ 3) := by
  have hC' := Aside0.mk hC
  have hqw := Aside0.mk hC.lt
  have hq0 := Aside0.mk hC.lo
  have hb0 := Aside0.mk (On.alloc (On.refl w) (.cells #[.int .i64 0, .slice none 0 0] 60 (0, 0)))
  have hl0 := Aside0.mk (loc_new w #[.int .i64 0, .slice none 0 0] 60)
  clear hC
  go_enter Tryz.func116, Tryz.ntmps116
  go_wp2_with (go_at_call 138; refine Stop.out ?_)
  refine ⟨(l1Below_calls w0 _ q (hC'.out.next hb0.out) 5 (by omega) (by omega)).mono ?_⟩
  rintro e w1 ⟨v, rfl, ⟨x, rfl, hx⟩, hC1, hE1⟩
  obtain ⟨k, rfl⟩ := Int.eq_ofNat_of_zero_le hx.1
  have hk := Aside0.mk (show k < 5 by omega)
  have hC1' := Aside0.mk hC1
  have hE1' := Aside0.mk ((Ex.of_on (S := fun b => b = q) hb0.out).trans hE1 fun _ _ h => h)
  have hr1 := Aside0.mk (blk_ex hE1 hl0.out (by have := hqw.out; omega))
  clear hC1 hE1 hx
  go_wp2_with (go_at_call 170; refine Stop.out ?_)
  refine ⟨(l4Fact_calls w0 _ q hC1'.out k hk.out 4 (by omega) (by omega)).mono ?_⟩
  rintro e w2 ⟨v, rfl, ⟨f, hO, hf1, hf2⟩, hC2, hE2⟩
  obtain ⟨v2, rfl, hO, hI⟩ := hO.out
  obtain ⟨A2, c2, rfl⟩ := own_slice hO
  have hO' := Aside0.mk (own_lower (lo' := w.heap.size + 1) hO (by have := blk_lt hr1.out; omega))
  have hI' := Aside0.mk hI
  have hf2' := Aside0.mk (show 1 ≤ f.2.length ∧ f.2.length ≤ 2 by rw [hf2]; exact arN_in k)
  have hC2' := Aside0.mk hC2
  have hE2' := Aside0.mk (hE1'.out.trans hE2 fun _ _ h => h)
  have hr2 := Aside0.mk (blk_ex hE2 hr1.out (by have := hqw.out; omega))
  clear hC2 hE2 hO hI hf1 hf2
  obtain ⟨r, xs⟩ := f
  simp only at hO' hI' hf2' ⊢
  have hfill := alloc_fill w2
  go_wp2_with (go_at_call 138; refine Stop.out ?_)
  refine ⟨?_⟩
  clear hfill
  obtain ⟨wa, hwa⟩ : ∃ wa, w2.alloc (.cells #[.int .i64 r, .slice A2 xs.length c2] 60 (0, 0)) = wa := ⟨_, rfl⟩
  have hl3 := Aside0.mk (show wa.heap[w2.heap.size]? = some (.cells #[.int .i64 r, .slice A2 xs.length c2] 60 (0, 0)) from hwa ▸ loc_new w2 _ _)
  have hba := Aside0.mk (show On w2 wa from hwa ▸ On.alloc (On.refl _) _)
  rw [hwa]
  clear hwa
  have hbl := Aside0.mk (show w.heap.size < w2.heap.size from blk_lt hr2.out)
  have hblx := Aside0.mk (show ∀ i, (Value.slice A2 xs.length c2).ownBlock = some i → i < w2.heap.size from fun i hi => own_lt hO'.out i hi)
  obtain ⟨g3, hg3⟩ : ∃ g3, w2.heap.size = g3 := ⟨_, rfl⟩
  rw [hg3] at hl3 hbl hblx ⊢
  clear hg3
  refine (l1Below_calls w0 _ q (hC2'.out.next hba.out) 10 (by omega) (by omega)).mono ?_
  rintro e w3 ⟨v, rfl, ⟨x, rfl, hx⟩, hC3, hE3⟩
  have hC3' := Aside0.mk hC3
  have hE3a := Aside0.mk ((Ex.of_on (S := fun b => b = q) hba.out).trans hE3 fun _ _ h => h)
  have hr3 := Aside0.mk (blk_ex hE3a.out hr2.out (by have := hqw.out; omega))
  have hg3 := Aside0.mk (blk_ex hE3 hl3.out (by have := hqw.out; have := hbl.out; omega))
  have hE3' := Aside0.mk (hE2'.out.trans hE3a.out fun _ _ h => h)
  have hO3 := Aside0.mk (own_ex hO'.out hE3a.out (fun i hi e => by have := own_base hO'.out i hi; have := hqw.out; omega))
  clear hC3 hE3 hx
  by_cases hx0 : x = 0
  · subst hx0
    go_wp2_with (go_at_call 138; refine Stop.out ?_)
    refine ⟨(l1Below_calls w0 _ q hC3'.out 7 (by omega) (by omega)).mono ?_⟩
    rintro e w4 ⟨v, rfl, ⟨y, rfl, hy⟩, hC4, hE4⟩
    have hw : wrap64 (y - 1) = y - 1 := IntWalk.wrap64_in _ (by omega)
    have hC4' := Aside0.mk hC4
    have hr4 := Aside0.mk (blk_ex hE4 hr3.out (by have := hqw.out; omega))
    have hg4 := Aside0.mk (blk_ex hE4 hg3.out (by have := hqw.out; have := hbl.out; omega))
    have hE4' := Aside0.mk (hE3'.out.trans hE4 fun _ _ h => h)
    have hO4 := Aside0.mk (own_ex hO3.out hE4 (fun i hi e => by have := own_base hO3.out i hi; have := hqw.out; omega))
    clear hC4 hE4 hy
    have hne := Aside0.mk (show w.heap.size ≠ g3 by have := hbl.out; omega)
    have hd0 := blk_cell hg4.out
    have hf0 := blk_frozen hg4.out
    have hx4 := Aside0.mk (show (w4.setCell ⟨g3, 0, none⟩ (.int .i64 (y - 1))).heap[w.heap.size]? = _ from blk_far hr4.out (by show ¬ _; simp; have := hbl.out; omega) _)
    have hd1 := blk_cell hx4.out
    have hf1 := blk_frozen hx4.out
    go_wp2
    refine bodyPost_ret (retF rfl rfl (g := w.heap.size) (blk_set (blk_set hx4.out 0 _) 1 _) rfl) rfl ?_
    have EX := Ex.set w4 ⟨g3, 0, none⟩ (.int .i64 (y - 1))
    have hb1 := hbl.out
    have hb2 := hqw.out
    have hb3 := hq0.out
    exact fact_end hqw.out hq0.out (own_ex hO4.out EX (fun i hi e => by have e' : i = g3 := e; have := hblx.out i hi; omega)) hI'.out (by have := hf2'.out; omega) (hC4'.out.ex EX (fun b hb => by have e' : b = g3 := hb; omega)) (hE4'.out.trans EX (fun i hi h => by have e' : i = g3 := h; omega))
  · by_cases hx1 : x = 1
    · subst hx1
      have hd0 := blk_cell hg3.out
      have hf0 := blk_frozen hg3.out
      go_wp2_with (refine gate 21 ?_)
      have hI5 := Aside0.mk (lit_I w3 1 (by omega))
      have hS5 := Aside0.mk (On.alloc (On.refl w3) (.cells #[.int .i64 1] 3 (0, 0)))
      obtain ⟨ys, hys⟩ : ∃ ys, xs ++ [1] = ys := ⟨_, rfl⟩
      refine ⟨apI 21 hys (OI.to (pw_own_below hO3.out hS5.out)) hI5.out.2.1 (by have := blk_lt (blk_below hr3.out hS5.out); omega) (by have := hf2'.out; simp; omega) fun v6 w6 hO6 hg6 hat6 => ?_⟩
      have hO6' := Aside0.mk (OI.of hO6)
      have hS6 := Aside0.mk (Ex.of_grown hg6)
      have hr6 := Aside0.mk (blk_ex hS6.out (blk_below hr3.out hS5.out) (fun e => by have := own_base hO3.out _ e.symm; omega))
      have hg6' := Aside0.mk (blk_ex hS6.out (blk_below hg3.out hS5.out) (fun e => by have := hblx.out _ e.symm; omega))
      have hyl := Aside0.mk (show ys.length = xs.length + 1 by rw [← hys]; simp)
      have hyi := Aside0.mk (show InR ys by rw [← hys]; intro z hz; rcases List.mem_append.1 hz with h | h; exact hI'.out z h; rw [List.mem_singleton.1 h]; omega)
      have hlt6 := Aside0.mk (show ∀ i, v6.ownBlock = some i → i ≠ g3 ∧ w.heap.size < i from fun i hi => by
        have h1 := own_base hO6'.out i hi
        refine ⟨?_, by omega⟩
        rcases hat6 with e | ⟨b, e, hb⟩
        · have := hblx.out i (e ▸ hi); omega
        · rw [e] at hi; cases hi; have := blk_lt (blk_below hg3.out hS5.out); omega)
      clear hO6 hg6 hat6 hys hd0 hf0
      obtain ⟨A6, c6, rfl⟩ := own_slice hO6'.out
      have hd6 := blk_cell hg6'.out
      have hf6 := blk_frozen hg6'.out
      have hx6 := Aside0.mk (show (w6.setCell ⟨g3, 1, none⟩ (.slice A6 ys.length c6)).heap[w.heap.size]? = _ from blk_far hr6.out (by show ¬ _; simp; have := hbl.out; omega) _)
      have hd1 := blk_cell hx6.out
      have hf1 := blk_frozen hx6.out
      go_wp2
      refine bodyPost_ret (retF rfl rfl (g := w.heap.size) (blk_set (blk_set hx6.out 0 _) 1 _) rfl) rfl ?_
      have EX := Ex.set w6 ⟨g3, 1, none⟩ (.slice A6 ys.length c6)
      have hb1 := hbl.out
      have hb2 := hqw.out
      have hb3 := hq0.out
      have hE6 := (hE3'.out.then_on hS5.out).trans hS6.out (fun i hi h => by have := own_base hO3.out i h.symm; omega)
      exact fact_end hqw.out hq0.out (own_ex hO6'.out EX (fun i hi e => by have e' : i = g3 := e; have := (hlt6.out i hi).1; omega)) hyi.out (by have := hf2'.out; have := hyl.out; omega) (((hC3'.out.next hS5.out).ex hS6.out (fun b hb => by have := own_base hO3.out b hb.symm; omega)).ex EX (fun b hb => by have e' : b = g3 := hb; omega)) (hE6.trans EX (fun i hi h => by have e' : i = g3 := h; omega))
    · by_cases hx2 : x = 2
      · subst hx2
        have hd0 := blk_cell hg3.out
        have hf0 := blk_frozen hg3.out
        obtain ⟨y0, ys, rfl⟩ : ∃ y0 ys, xs = y0 :: ys := by
          cases xs with
          | nil => have := hf2'.out; simp at this
          | cons a b => exact ⟨a, b, rfl⟩
        obtain ⟨gr, rfl, hgr1, hgr2, -⟩ := OI.set0 hO3.out
        have hgr := Aside0.mk (show w.heap.size + 1 ≤ gr ∧ gr < g3 from ⟨hgr1, hblx.out gr rfl⟩)
        clear hgr1 hgr2
        go_wp2
        refine Reg.regionG (fun w' => w'.heap[g3]? = some (.cells #[.int .i64 r, .slice (some ⟨gr, 0, none⟩) (y0 :: ys).length c2] 60 (0, 0))) [0,1,2] [3,4,5,6] 6 (by kernel_rfl) (by kernel_rfl) hg3.out ?_
        repeat refine Reg.sG ?_
        refine Reg.startG ?_
        obtain ⟨w4, hw4⟩ : ∃ w4, ({ w3 with drawn := w3.drawn + 1 } : World) = w4 := ⟨_, rfl⟩
        have hS4 := Aside0.mk (show On w3 w4 from (hw4 ▸ on_draw w3))
        rw [hw4]
        clear hw4 hd0 hf0
        refine Reg.tG ?_
        go_wp2
        have hlt := Aside0.mk (show OI (w4.alloc (.cells #[.int .i64 10, .int .i64 (-41), .int .i64 9] 3 (0, 0))) w4.heap.size (.slice (some ⟨w4.heap.size, 0, none⟩) 3 3) [10, -41, 9] from lit_own w4 #[.int .i64 10, .int .i64 (-41), .int .i64 9] 3 1 3 w4.heap.size (Nat.le_refl _) (by omega) rfl)
        have hS5 := Aside0.mk (hS4.out.trans (On.alloc (On.refl w4) (.cells #[.int .i64 10, .int .i64 (-41), .int .i64 9] 3 (0, 0))))
        have hqs := Aside0.mk (show q < w4.heap.size from (hC3'.out.next hS4.out).lt)
        refine ⟨blk_below hg3.out hS5.out, ?_⟩
        refine Reg.tG ?_
        go_wp2_with (go_at_call 149; refine Stop.out ?_)
        refine ⟨(l1PickInt_calls w0 _ q (hC3'.out.next hS5.out) (some ⟨w4.heap.size, 0, none⟩) 3 [10, -41, 9] (fun w' k => (OI.same (own_ex hlt.out k (fun i hi e => by have := own_base hlt.out i hi; have := hqs.out; omega)) (fun z hz => by simp at hz; omega)).2) (by simp) (by simp)).mono ?_⟩
        rintro e w6 ⟨v, rfl, ⟨x, rfl, hx⟩, hC6, hE6⟩
        have hx' := Aside0.mk (show -41 ≤ x ∧ x ≤ 10 by simp at hx; omega)
        have hC6' := Aside0.mk hC6
        have hE6' := Aside0.mk ((Ex.of_on (S := fun b => b = q) hS5.out).trans hE6 fun _ _ h => h)
        have hg6 := Aside0.mk (blk_ex hE6'.out hg3.out (by have := hqw.out; have := hbl.out; omega))
        have hr6 := Aside0.mk (blk_ex hE6'.out hr3.out (by have := hqw.out; omega))
        have hO6 := Aside0.mk (own_ex hO3.out hE6'.out (fun i hi e => by have := own_base hO3.out i hi; have := hqw.out; omega))
        clear hC6 hE6 hx
        obtain ⟨gr', hgr', -, -, ⟨z, hz⟩, hfz, hset⟩ := OI.set0 hO6.out
        obtain rfl : gr = gr' := by injection hgr' with e; injection e
        clear hgr'
        have hset' := Aside0.mk (hset x)
        clear hset
        go_wp2
        refine ⟨hg6.out, ?_⟩
        refine Reg.tG ?_
        go_wp2
        refine ⟨hg6.out, ?_⟩
        refine Reg.tE ?_
        have hx6 := Aside0.mk (show (w6.setCell ⟨gr, 0, none⟩ (.int .i64 x)).heap[w.heap.size]? = _ from blk_far hr6.out (by show ¬ _; simp; have := hgr.out; omega) _)
        have hy6 := Aside0.mk (show (w6.setCell ⟨gr, 0, none⟩ (.int .i64 x)).heap[g3]? = _ from blk_far hg6.out (by show ¬ _; simp; have := hgr.out; omega) _)
        have hd0 := blk_cell hy6.out
        have hf0 := blk_frozen hy6.out
        have hd1 := blk_cell hx6.out
        have hf1 := blk_frozen hx6.out
        go_wp2
        refine bodyPost_ret (retF rfl rfl (g := w.heap.size) (blk_set (blk_set hx6.out 0 _) 1 _) rfl) rfl ?_
        have EX := Ex.set w6 ⟨gr, 0, none⟩ (.int .i64 x)
        have hb1 := hgr.out
        have hb2 := hqw.out
        have hb3 := hq0.out
        exact fact_end (zs := x :: ys) hqw.out hq0.out hset'.out (fun z hz => (List.mem_cons.1 hz).elim (fun e => by have := hx'.out; omega) (fun h => hI'.out z (List.mem_cons_of_mem _ h))) (by have := hf2'.out; simp at this ⊢; omega) (hC6'.out.ex EX (fun b hb => by have e' : b = gr := hb; omega)) ((hE3'.out.trans hE6'.out fun _ _ h => h).trans EX (fun i hi h => by have e' : i = gr := h; omega))
      · have b0 : (x == 0) = false := by simpa using hx0
        have b1 : (x == 1) = false := by simpa using hx1
        have b2 : (x == 2) = false := by simpa using hx2
        have hd0 := blk_cell hg3.out
        have hf0 := blk_frozen hg3.out
        have hd1 := blk_cell hr3.out
        have hf1 := blk_frozen hr3.out
        clear hx0 hx1 hx2
        go_wp2
        refine bodyPost_ret (retF rfl rfl (g := w.heap.size) (blk_set (blk_set hr3.out 0 _) 1 _) rfl) rfl ?_
        exact fact_end hqw.out hq0.out hO3.out hI'.out (by have := hf2'.out; omega) hC3'.out hE3'.out
end Go.Proofs.YtgemaohdlibboaaGreatDoor.H
/- Walks: the draw of any instance. What is told: sizes and ranges. No condition. -/
namespace Go.Proofs.YtgemaohdlibboaaGreatDoor.H
open Go Go.RowKit Go.Proofs.YtgemaohdlibboaaGreatDoorW.PrintWords Go.Proofs.YtgemaohdlibboaaGreatDoorW.PrintLast
open Go.Proofs.YtgemaohdlibboaaGreatDoor.Reg (On on_draw)
set_option maxHeartbeats 4000000
set_option maxRecDepth 100000
set_option linter.unusedVariables false
set_option linter.unusedSimpArgs false

/-- An own instance none of whose blocks is g. -/
structure IW (g lo : Nat) (w : World) (vr vf : Value) (rs : List Rel) (hs : List Hdr) (fs : List Fct) : Prop where
  r : OR w lo vr rs
  f : OH w lo vf hs
  s : Sep w lo hs fs
  nr : ∀ b, vr.ownBlock = some b → b ≠ g
  nf : ∀ b, vf.ownBlock = some b → b ≠ g
  ns : ∀ (i : Nat) (a : Hdr) (b : Nat), hs[i]? = some a → (hdV a).ownBlock = some b → b ≠ g
theorem IW.of {g lo lo' : Nat} {w : World} {v : Value} {rs : List Rel} {fs : List Fct} (h : OIn w lo' v rs fs) (hl : lo ≤ lo') (hg : w.heap.size ≤ g ∨ g < lo') : ∃ vr vf hs, v = .agg #[vr, vf] ∧ IW g lo w vr vf rs hs fs := by
  obtain ⟨vr, vf, hs, rfl, h0, h1, h2⟩ := h.out
  exact ⟨vr, vf, hs, rfl, own_lower h0 hl, own_lower h1 hl, h2.lower hl, fun b hb => by have := own_base h0 b hb; have := own_lt h0 b hb; omega,
    fun b hb => by have := own_base h1 b hb; have := own_lt h1 b hb; omega, fun i a b ha hb => by have := h2.lt ha hb; omega⟩
theorem IW.ex {g lo : Nat} {S : Nat → Prop} {W w : World} {vr vf : Value} {rs : List Rel} {hs : List Hdr} {fs : List Fct} (h : IW g lo W vr vf rs hs fs) (k : Ex S W w) (hS : ∀ b, S b → b < lo ∨ b = g) : IW g lo w vr vf rs hs fs :=
  ⟨own_ex h.r k (fun i hi e => by have := own_base h.r i hi; have := h.nr i hi; have := hS i e; omega),
   own_ex h.f k (fun i hi e => by have := own_base h.f i hi; have := h.nf i hi; have := hS i e; omega),
   h.s.ex k (fun i a b ha hb e => by have := (h.s.lt ha hb).1; have := h.ns i a b ha hb; have := hS b e; omega), h.nr, h.nf, h.ns⟩
theorem IW.on {g lo : Nat} {W w : World} {vr vf : Value} {rs : List Rel} {hs : List Hdr} {fs : List Fct} (h : IW g lo W vr vf rs hs fs) (k : On W w) : IW g lo w vr vf rs hs fs := h.ex (Ex.of_on (S := fun _ => False) k) fun _ h => h.elim
theorem IW.rs {g lo : Nat} {S : Nat → Prop} {w : World} {vr vf : Value} {rs : List Rel} {hs : List Hdr} {fs : List Fct} (h : IW g lo w vr vf rs hs fs) (hS : ∀ b, S b → b < lo ∨ b = g) : RS S w (.agg #[vr, vf]) rs fs := by
  obtain ⟨A0, c0, rfl, _⟩ := OR.rd h.r
  obtain ⟨A1, c1, rfl⟩ := own_slice h.f
  refine ⟨A0, c0, A1, c1, hs, by rw [h.s.len], fun w' k => ?_⟩
  have h' := h.ex k hS
  exact ⟨(OR.same h'.r).2, (OH.rh h'.f).2, h'.s.reads⟩
theorem RS.mono {S S' : Nat → Prop} {w : World} {v : Value} {rs : List Rel} {fs : List Fct} (h : RS S w v rs fs) (hs : ∀ b, S' b → S b) : RS S' w v rs fs := by
  obtain ⟨A0, c0, A1, c1, hs', e, h⟩ := h.out
  exact ⟨A0, c0, A1, c1, hs', e, fun w' k => h w' (k.mono hs)⟩
theorem drop1 {w : World} {A : Option Addr} {c : Nat} {rs : List Rel} (h : Rels w A c rs) (hl : 1 ≤ rs.length) : Rels w (if c = 1 then A else A.map (·.add (1 * 3))) (c - 1) (rs.drop 1) :=
  ⟨by rw [List.length_drop]; have := h.1; omega, Kd.C_drop (m := 1) (c := c) h.2 hl h.1⟩
theorem own_off {w : World} {lo e sz n g : Nat} {v : Value} {cs : List Value} {ds : Array Value} {t : TypeId} {fr : Nat × Nat} (h : w.ownsRow lo e sz v n cs) (hb : w.heap[g]? = some (.cells ds t fr)) (hne : t ≠ e) : ∀ b, v.ownBlock = some b → b ≠ g := fun b hv hbg => by
  obtain ⟨c, hc⟩ := own_typed h b hv
  subst hbg
  rw [hb] at hc
  injection hc with hc
  injection hc with _ ht
  exact hne ht
theorem Reads.one {w : World} {a : Hdr} {f : Fct} (h1 : a.1 = f.1) (h2 : a.2.2.1 = f.2.length) (h3 : Ints w a.2.1 a.2.2.2 f.2) : Reads w [a] [f] := ⟨rfl, fun i b g hb hg => by
  have hi : i = 0 := by have := (List.getElem?_eq_some_iff.1 hb).1; simp at this; omega
  subst hi
  simp at hb hg
  subst hb hg
  exact ⟨h1, h2, h3⟩⟩
theorem flat_set (rs : List Rel) (k : Nat) (hk : k < rs.length) (r : Rel) : ((((rs.flatMap encR).set (k * 3) (.string r.1)).set (k * 3 + 1) (.int .i64 r.2.1)).set (k * 3 + 2) (.bool r.2.2)) = (rs.set k r).flatMap encR := by
  have e : rs = rs.take k ++ rs[k] :: rs.drop (k + 1) := by rw [List.getElem_cons_drop, List.take_append_drop]
  have h1 : rs.flatMap encR = (rs.take k).flatMap encR ++ (Value.string rs[k].1 :: Value.int .i64 rs[k].2.1 :: Value.bool rs[k].2.2 :: (rs.drop (k + 1)).flatMap encR) := by
    conv => lhs; rw [e]
    rw [List.flatMap_append, List.flatMap_cons]
    rfl
  rw [h1, set3 (k * 3) (by rw [flat_len (enc := encR) (sz := 3) (fun _ => rfl), List.length_take]; omega), List.set_eq_take_append_cons_drop, if_pos hk, List.flatMap_append, List.flatMap_cons]
  rfl
/-- An element of a row of relations stored. -/
theorem OR.setAt {W : World} {lo : Nat} {A : Option Addr} {n c k : Nat} {rs : List Rel} (h : OR W lo (.slice A n c) rs) (hk : k < rs.length) : ∃ g, A = some ⟨g, 0, none⟩ ∧ (Value.slice A n c).ownBlock = some g ∧ (∃ z, W.cell? ⟨g, k * 3, none⟩ = some z) ∧ (∃ z, W.cell? ⟨g, k * 3 + 1, none⟩ = some z) ∧ (∃ z, W.cell? ⟨g, k * 3 + 2, none⟩ = some z) ∧ (∀ j, W.frozen? ⟨g, j, none⟩ = false) ∧
    ∀ r : Rel, OR (((W.setCell ⟨g, k * 3, none⟩ (.string r.1)).setCell ⟨g, k * 3 + 1, none⟩ (.int .i64 r.2.1)).setCell ⟨g, k * 3 + 2, none⟩ (.bool r.2.2)) lo (.slice A n c) (rs.set k r) := by
  have hn := (OR.same h).1
  rcases h.2 with ⟨h', hn0⟩ | ⟨g, cap, cur, h', hg, hh, hnc, hcm, hcs, htk⟩
  · omega
  · injection h' with e1 e2 e3
    subst e1 e2 e3
    refine ⟨g, rfl, rfl, own_some h (k * 3) (by omega), own_some h (k * 3 + 1) (by omega), own_some h (k * 3 + 2) (by omega), fun j => own_frozen h j, fun r => ?_⟩
    have := ((h.stored (k * 3) (.string r.1)).1.stored (k * 3 + 1) (.int .i64 r.2.1)).1.stored (k * 3 + 2) (.bool r.2.2) |>.1
    rw [flat_set rs k hk r] at this
    show World.ownsRow _ _ _ _ _ (rs.set k r).length _
    rw [List.length_set]
    exact this
/-- What l5Any hands back. -/
abbrev AnyI (lo : Nat) (v : Value) (w : World) : Prop := ∃ rs fs, RS (fun b => b < lo) w v rs fs ∧ rs.length ≤ 5 ∧ fs.length ≤ 200 ∧ ∀ f ∈ fs, f.2.length ≤ 3
theorem inst_end {w0 w wz : World} {q : Nat} {A0 A1 : Option Addr} {n0 c0 n1 c1 : Nat} {rz : List Rel} {fz : List Fct} (hqw : q < w.heap.size) (hq0 : w0.heap.size ≤ q) (hR : RS (fun b => b ≤ w.heap.size) wz (.agg #[.slice A0 n0 c0, .slice A1 n1 c1]) rz fz) (hr : rz.length ≤ 5) (hl : fz.length ≤ 200) (hl2 : ∀ f ∈ fz, f.2.length ≤ 3) (hC : Cu w0 wz q) (hE : Ex (fun b => b = q) w wz) :
    Dr w0 w q (AnyI w.heap.size) (.returned (.agg #[.slice A0 n0 c0, .slice A1 n1 c1])) ((wz.setCell ⟨w.heap.size, 0, none⟩ (.slice A0 n0 c0)).setCell ⟨w.heap.size, 1, none⟩ (.slice A1 n1 c1)) := by
  have EE := (Ex.set wz ⟨w.heap.size, 0, none⟩ (.slice A0 n0 c0)).trans (Ex.set _ ⟨w.heap.size, 1, none⟩ (.slice A1 n1 c1)) (fun _ _ h => h)
  exact ⟨_, rfl, ⟨rz, fz, (hR.ex (EE.mono fun _ h => Nat.le_of_eq h)).mono fun _ h => Nat.le_of_lt h, hr, hl, hl2⟩,
    hC.ex EE (fun b hb => by have e' : b = w.heap.size := hb; omega), hE.trans EE (fun i hi h => by have e' : i = w.heap.size := h; omega)⟩
section
variable {ops : Array Oper} {rest : List Oper} {o : Oper} {a : Act} {Q : Exit → Act → World → Prop} {W : World}
/-- A cut of relations: all but the first. -/
theorem slR (N : Tmp) {x y : Operand} {A : Option Addr} {n c k : Nat} (hk : k ≤ n) (hc : n ≤ c) (h : wpList Tryz.prog ops Q rest (a.put (some N) (.slice (if c = k then A else A.map (·.add (k * 3))) (n - k) (c - k))) W)
    (hop : o.op = .slice 22 x (some y) none none := by rfl) (hd : o.dst = some N := by rfl) (hg : o.guard = none := by rfl) (hx : a.eval x = .slice A n c := by rfl) (hy : a.eval y = .int .i64 (k : Int) := by rfl) : wpList Tryz.prog ops Q (o :: rest) a W := by
  obtain ⟨i0, hi0, _, hsz, _⟩ := info_parts infoR
  have hcut := cut_from (P := Tryz.prog) 22 95 .i64 Tryz.underlying22 hi0 3 hsz A n c (k : Int) (by omega) (by omega)
  refine wpList_plain hg fun K hK => ?_
  have hrun : (execOp a.eval o).run Tryz.prog W = .ok (.value (.slice (if c = k then A else A.map (·.add (k * 3))) (n - k) (c - k))) W := by
    unfold execOp
    simp only [hop, hx, hy, Option.map_some, Option.map_none]
    have := hcut W
    simp only [Int.toNat_natCast] at this
    go_simp
  unfold Oper.wp
  rw [hrun]
  refine hK _ _ ?_
  rw [hd]
  exact h
end
end Go.Proofs.YtgemaohdlibboaaGreatDoor.H
/- Walks: the draw of any instance. What is told: sizes and ranges. No condition. -/
namespace Go.Proofs.YtgemaohdlibboaaGreatDoor.H
open Go Go.RowKit Go.Proofs.YtgemaohdlibboaaGreatDoorW.PrintWords Go.Proofs.YtgemaohdlibboaaGreatDoorW.PrintLast
open Go.Proofs.YtgemaohdlibboaaGreatDoor.Reg (On on_draw)
set_option maxHeartbeats 4000000
set_option maxRecDepth 100000
set_option linter.unusedVariables false
set_option linter.unusedSimpArgs false

theorem l5Any_calls (w0 w : World) (q : Nat) (hC : Cu w0 w q) :
    Calls Tryz.prog 63 #[.pointer (some ⟨q, 0, none⟩)] w (Dr w0 w q (AnyI w.heap.size)) := by
  have hC' := Aside0.mk hC
  have hqw := Aside0.mk hC.lt
  have hq0 := Aside0.mk hC.lo
  have hb0 := Aside0.mk (On.alloc (On.refl w) (.cells #[.slice none 0 0, .slice none 0 0] 25 (0, 0)))
  have hl0 := Aside0.mk (loc_new w #[.slice none 0 0, .slice none 0 0] 25)
  clear hC
  go_enter Tryz.func63, Tryz.ntmps63
  go_wp2_with (go_at_call 136; refine Stop.out ?_)
  refine ⟨(l5Target_calls w0 _ q (hC'.out.next hb0.out) 5 (by omega) (by omega) 3 (by omega) (by omega)).mono ?_⟩
  rintro e w1 ⟨v, rfl, ⟨fs, hI, ha, hl, hm⟩, hC1, hE1⟩
  obtain ⟨vr, vf, hs, rfl, hIW⟩ := IW.of (g := w1.heap.size) (lo := w.heap.size + 1) hI (by simp) (.inl (Nat.le_refl _))
  obtain ⟨A0, d0, rfl⟩ := own_slice hIW.r
  obtain ⟨A1, d1, rfl⟩ := own_slice hIW.f
  have hla := Aside0.mk hIW.s.len
  rw [hla.out] at hIW
  have hI1 := Aside0.mk hIW
  have hfa := Aside0.mk ha
  have hfl := Aside0.mk (show fs.length ≤ 5 ∧ ∀ f ∈ fs, f.2.length ≤ 2 from ⟨by omega, hm⟩)
  have hC1' := Aside0.mk hC1
  have hE1' := Aside0.mk ((Ex.of_on (S := fun b => b = q) hb0.out).trans hE1 fun _ _ h => h)
  have hr1 := Aside0.mk (blk_ex hE1 hl0.out (by have := hqw.out; omega))
  rw [hla.out]
  clear hC1 hE1 hI hIW ha hl hm
  have hfill := alloc_fill w1
  go_wp2_with (go_at_call 66; refine Stop.out ?_)
  refine ⟨?_⟩
  clear hfill
  obtain ⟨wa, hwa⟩ : ∃ wa, w1.alloc (.cells #[.slice A0 sigs.length d0, .slice A1 fs.length d1] 25 (0, 0)) = wa := ⟨_, rfl⟩
  have hl3 := Aside0.mk (show wa.heap[w1.heap.size]? = some (.cells #[.slice A0 sigs.length d0, .slice A1 fs.length d1] 25 (0, 0)) from hwa ▸ loc_new w1 _ _)
  have hba := Aside0.mk (show On w1 wa from hwa ▸ On.alloc (On.refl _) _)
  rw [hwa]
  clear hwa
  have hgg := Aside0.mk (show w.heap.size < w1.heap.size from blk_lt hr1.out)
  obtain ⟨g3, hg3⟩ : ∃ g3, w1.heap.size = g3 := ⟨_, rfl⟩
  rw [hg3] at hl3 hgg hI1 ⊢
  clear hg3
  refine (l1Once_calls w0 _ q (hC1'.out.next hba.out) 2 (by omega) (by omega)).mono ?_
  rintro e w2 ⟨v, rfl, ⟨b, rfl⟩, hC2, hE2⟩
  have hC2' := Aside0.mk hC2
  have hE2a := Aside0.mk ((Ex.of_on (S := fun b => b = q) hba.out).trans hE2 fun _ _ h => h)
  have hr2 := Aside0.mk (blk_ex hE2a.out hr1.out (by have := hqw.out; omega))
  have hb2 := Aside0.mk (blk_ex hE2 hl3.out (by have := hqw.out; have := hgg.out; omega))
  have hE2' := Aside0.mk (hE1'.out.trans hE2a.out fun _ _ h => h)
  have hI2 := Aside0.mk (hI1.out.ex hE2a.out fun b hb => .inl (by have := hqw.out; omega))
  clear hC2 hE2
  cases b with
  | false =>
    go_wp2_with (go_at_call 138; refine Stop.out ?_)
    refine ⟨?_⟩
    have hCx := Aside0.mk hC2'.out
    have hIW := Aside0.mk hI2.out
    have hbx := Aside0.mk hb2.out
    have hrx := Aside0.mk hr2.out
    have hEx := Aside0.mk hE2'.out
    have hfl0 := hfl.out
    clear hfl
    have hfl := Aside0.mk (show fs.length ≤ 100 ∧ ∀ f ∈ fs, f.2.length ≤ 3 from ⟨by omega, fun f hf => by have := hfl0.2 f hf; omega⟩)
    clear hfl0
    as_aux_lemma =>
      refine (l1Below_calls w0 _ q hCx.out 14 (by omega) (by omega)).mono ?_
      rintro e w8 ⟨v, rfl, ⟨x, rfl, hx⟩, hC8, hE8⟩
      have hC8' := Aside0.mk hC8
      have hq1 := Aside0.mk (show q < w.heap.size + 1 by have := hqw.out; omega)
      have hI8 := Aside0.mk (hIW.out.ex hE8 fun b hb => .inl (by have := hq1.out; omega))
      have hb8 := Aside0.mk (blk_ex hE8 hbx.out (by have := hqw.out; have := hgg.out; omega))
      have hr8 := Aside0.mk (blk_ex hE8 hrx.out (by have := hqw.out; omega))
      have hE8' := Aside0.mk (hEx.out.trans hE8 fun _ _ h => h)
      have hS3 := Aside0.mk (show ∀ b, (b ≤ w.heap.size ∨ b = g3) → b < w.heap.size + 1 ∨ b = g3 from fun b hb => by have := hqw.out; omega)
      clear hC8 hE8 hx
      have hd0 := blk_cell hb8.out
      have hf0 := blk_frozen hb8.out
      by_cases hx0 : x = 0
      · subst hx0
        go_wp2
        refine Reg.regionG (fun w' => w'.heap[g3]? = some (.cells #[.slice A0 sigs.length d0, .slice A1 fs.length d1] 25 (0, 0))) [0,1,2] [3,4,5,6,7] 7 (by kernel_rfl) (by kernel_rfl) hb8.out ?_
        repeat refine Reg.sG ?_
        refine Reg.startG ?_
        obtain ⟨w9, hw9⟩ : ∃ w9, ({ w8 with drawn := w8.drawn + 1 } : World) = w9 := ⟨_, rfl⟩
        have hS9 := Aside0.mk (show On w8 w9 from (hw9 ▸ on_draw w8))
        rw [hw9]
        clear hw9 hd0 hf0
        refine Reg.tG ?_
        go_wp2_with (go_at_call 116; refine Stop.out ?_)
        refine ⟨(l4Any_calls w0 _ q (hC8'.out.next hS9.out)).mono ?_⟩
        rintro e wa ⟨v, rfl, ⟨f, hO, hf3⟩, hCa, hEa⟩
        obtain ⟨va, rfl, hO, hIr⟩ := hO.out
        obtain ⟨Aa, ca, rfl⟩ := own_slice hO
        have hlo9 := Aside0.mk (show w.heap.size + 1 ≤ w9.heap.size ∧ g3 < w9.heap.size ∧ q < w9.heap.size from ⟨blk_lt (blk_below hr8.out hS9.out), blk_lt (blk_below hb8.out hS9.out), (hC8'.out.next hS9.out).lt⟩)
        have hOa := Aside0.mk hO
        have hIr' := Aside0.mk hIr
        have hf3' := Aside0.mk hf3
        have hCa' := Aside0.mk hCa
        have hEa' := Aside0.mk ((Ex.of_on (S := fun b => b = q) hS9.out).trans hEa fun _ _ h => h)
        have hba := Aside0.mk (blk_ex hEa'.out hb8.out (by have := hqw.out; have := hgg.out; omega))
        have hra := Aside0.mk (blk_ex hEa'.out hr8.out (by have := hqw.out; omega))
        have hIa := Aside0.mk (hI8.out.ex hEa'.out fun b hb => .inl (by have := hq1.out; omega))
        clear hCa hEa hO hIr hf3
        go_wp2
        refine ⟨hba.out, ?_⟩
        refine Reg.tG ?_
        go_wp2
        obtain ⟨wb, hwb⟩ : ∃ wb, wa.alloc (.cells #[.int .i64 f.1, .slice Aa f.2.length ca] 60 (0, 0)) = wb := ⟨_, rfl⟩
        have hSb := Aside0.mk (show On wa wb from hwb ▸ On.alloc (On.refl _) _)
        have hRb := Aside0.mk (show RH wb (some ⟨wa.heap.size, 0, none⟩) 1 [(f.1, Aa, f.2.length, ca)] from lit_RH (hwb ▸ On.refl _))
        have hIb := Aside0.mk (hIa.out.on hSb.out)
        have hbb := Aside0.mk (blk_below hba.out hSb.out)
        have hrb := Aside0.mk (blk_below hra.out hSb.out)
        try rw [hwb]
        clear hwb
        refine ⟨hbb.out, ?_⟩
        refine Reg.tG ?_
        obtain ⟨zs, hzs⟩ : ∃ zs, hs ++ [((f.1, Aa, f.2.length, ca) : Hdr)] = zs := ⟨_, rfl⟩
        have hhl := Aside0.mk hIb.out.s.len
        refine apH 37 hzs hIb.out.f hRb.out (by have := blk_lt hrb.out; omega) (by have := hhl.out; have := hfl.out.1; simp; omega) (fun v11 w11 hO11 hg11 => ?_)
        have hO11' := Aside0.mk hO11
        have hGr := Aside0.mk (Ex.of_grown hg11)
        have hb11 := Aside0.mk (blk_ex hGr.out hbb.out (fun e => hIb.out.nf _ e.symm rfl))
        have hr11 := Aside0.mk (blk_ex hGr.out hrb.out (fun e => by have := own_base hIb.out.f _ e.symm; omega))
        clear hO11 hg11
        obtain ⟨A11, c11, rfl⟩ := own_slice hO11'.out
        refine ⟨hb11.out, ?_⟩
        have hd6 := blk_cell hb11.out
        have hf6 := blk_frozen hb11.out
        simp only [Act.put, List.setIfInBounds_toArray, List.set_cons_zero, List.set_cons_succ]
        refine Reg.tG ?_
        go_wp2
        refine ⟨hb11.out, ?_⟩
        refine Reg.tE ?_
        have hx11 := Aside0.mk (show (w11.setCell ⟨g3, 1, none⟩ (.slice A11 zs.length c11)).heap[w.heap.size]? = _ from blk_far hr11.out (by show ¬ _; simp; have := hgg.out; omega) _)
        have hy11 := Aside0.mk (blk_set hb11.out 1 (.slice A11 zs.length c11))
        have hd1 := blk_cell hx11.out
        have hf1 := blk_frozen hx11.out
        go_wp2
        refine bodyPost_ret (retI rfl rfl (g := w.heap.size) (blk_set (blk_set hx11.out 0 _) 1 _) rfl) rfl ?_
        have EX := Ex.set w11 ⟨g3, 1, none⟩ (.slice A11 zs.length c11)
        have hb1 := hgg.out
        have hb2 := hqw.out
        have hb3 := hq0.out
        have hb4 := hlo9.out
        have hzl : zs.length = (fs ++ [f]).length := by rw [← hzs]; simp; exact hhl.out
        have hRS : RS (fun b => b ≤ w.heap.size ∨ b = g3) w11 (.agg #[.slice A0 sigs.length d0, .slice A11 zs.length c11]) sigs (fs ++ [f]) := by
          have hIo := own_ex (pw_own_below hOa.out hSb.out) hGr.out (fun i hi e => own_ne_blk (pw_own_below hOa.out hSb.out) hIb.out.f (by decide) hi e.symm)
          refine ⟨A0, d0, A11, c11, zs, by rw [hzl], fun w' k => ⟨?_, ?_, ?_⟩⟩
          · have h1 := own_ex hIb.out.r hGr.out (fun i hi e => own_ne_blk hIb.out.r hIb.out.f (by decide) hi e.symm)
            exact (OR.same (own_ex h1 k (fun i hi e => by have := own_base h1 i hi; have := hIb.out.nr i hi; have := hS3.out i e; omega))).2
          · exact (OH.rh (own_ex hO11'.out k (fun i hi e => by have := own_base hO11'.out i hi; have := own_off hO11'.out hb11.out (by decide) i hi; have := hS3.out i e; omega))).2
          · rw [← hzs]
            refine Reads.append ?_ (Reads.one rfl rfl (OI.same (own_ex hIo k (fun i hi e => by have := own_base hOa.out i hi; omega)) hIr'.out).2)
            have h1 : Sep w11 (w.heap.size + 1) hs fs := hIb.out.s.ex hGr.out (fun i a b ha hb e => by
              have hi : i < fs.length := by rw [← hIb.out.s.len]; exact (List.getElem?_eq_some_iff.1 ha).1
              exact own_ne_blk (hIb.out.s.at_ i a fs[i] ha (List.getElem?_eq_getElem hi)).2.1 hIb.out.f (by decide) hb e.symm)
            exact (h1.ex k (fun i a b ha hb e => by have := (h1.lt ha hb).1; have := hIb.out.ns i a b ha hb; have := hS3.out b e; omega)).reads
        have hCE := ((hCa'.out.next hSb.out).ex hGr.out (fun b hb => by have := own_base hIb.out.f b hb.symm; omega)).ex EX (fun b hb => by have e' : b = g3 := hb; omega)
        have hEE := (((hE8'.out.trans hEa'.out fun _ _ h => h).then_on hSb.out).trans hGr.out (fun i hi h => by have := own_base hIb.out.f i h.symm; omega)).trans EX (fun i hi h => by have e' : i = g3 := h; omega)
        exact inst_end hqw.out hq0.out ((hRS.ex (EX.mono fun _ h => .inr h)).mono fun b h => .inl h) (by show 5 ≤ 5; omega) (by have := hfl.out.1; simp; omega) (fun g hg => (List.mem_append.1 hg).elim (fun h => hfl.out.2 g h) (fun h => by rw [List.mem_singleton.1 h]; exact hf3'.out)) hCE hEE
      · by_cases hx1 : x = 1
        · subst hx1
          obtain ⟨hcA, hRA⟩ := OR.same hI8.out.r
          have hcap := Aside0.mk hRA.1
          go_wp2_with (refine gate 43 ?_)
          refine ⟨slR 43 (k := 1) (A := A0) (n := sigs.length) (c := d0) (by show 1 ≤ 5; omega) hcap.out ?_⟩
          obtain ⟨Ac, hAc⟩ : ∃ Ac, (if d0 = 1 then A0 else A0.map (·.add (1 * 3))) = Ac := ⟨_, rfl⟩
          obtain ⟨dc, hdc⟩ : ∃ dc, d0 - 1 = dc := ⟨_, rfl⟩
          have hRS := Aside0.mk (show RS (fun b => b ≤ w.heap.size ∨ b = g3) w8 (.agg #[.slice Ac (sigs.length - 1) dc, .slice A1 fs.length d1]) (sigs.drop 1) fs from by
            refine ⟨Ac, dc, A1, d1, hs, rfl, fun w' k => ?_⟩
            have h' := hI8.out.ex k hS3.out
            refine ⟨?_, (OH.rh h'.f).2, h'.s.reads⟩
            rw [← hAc, ← hdc]
            exact drop1 (OR.same h'.r).2 (by show 1 ≤ 5; omega))
          rw [hAc, hdc]
          clear hAc hdc hcA hRA
          obtain ⟨m4, hm4⟩ : ∃ m4, sigs.length - 1 = m4 := ⟨_, rfl⟩
          rw [hm4] at hRS ⊢
          clear hm4
          simp only [Act.put, List.setIfInBounds_toArray, List.set_cons_zero, List.set_cons_succ]
          have hx8 := Aside0.mk (show (w8.setCell ⟨g3, 0, none⟩ (.slice Ac m4 dc)).heap[w.heap.size]? = _ from blk_far hr8.out (by show ¬ _; simp; have := hgg.out; omega) _)
          have hd1 := blk_cell hx8.out
          have hf1 := blk_frozen hx8.out
          go_wp2
          refine bodyPost_ret (retI rfl rfl (g := w.heap.size) (blk_set (blk_set hx8.out 0 _) 1 _) rfl) rfl ?_
          have EX := Ex.set w8 ⟨g3, 0, none⟩ (.slice Ac m4 dc)
          have hb1 := hgg.out
          have hb2 := hqw.out
          have hb3 := hq0.out
          exact inst_end hqw.out hq0.out ((hRS.out.ex (EX.mono fun _ h => .inr h)).mono fun b h => .inl h) (by show 4 ≤ 5; omega) (by have := hfl.out.1; omega) hfl.out.2 (hC8'.out.ex EX (fun b hb => by have e' : b = g3 := hb; omega)) (hE8'.out.trans EX (fun i hi h => by have e' : i = g3 := h; omega))
        · by_cases hx2 : x = 2
          · subst hx2
            go_wp2
            refine Reg.regionG (fun w' => w'.heap[g3]? = some (.cells #[.slice A0 sigs.length d0, .slice A1 fs.length d1] 25 (0, 0))) [0,1,2,4] [3,5,6,7] 7 (by kernel_rfl) (by kernel_rfl) hb8.out ?_
            repeat refine Reg.sG ?_
            refine Reg.startG ?_
            obtain ⟨w9, hw9⟩ : ∃ w9, ({ w8 with drawn := w8.drawn + 1 } : World) = w9 := ⟨_, rfl⟩
            have hS9 := Aside0.mk (show On w8 w9 from (hw9 ▸ on_draw w8))
            rw [hw9]
            clear hw9 hd0 hf0
            refine Reg.tG ?_
            go_wp2_with (go_at_call 138; refine Stop.out ?_)
            refine ⟨(l1Below_calls w0 _ q (hC8'.out.next hS9.out) 5 (by omega) (by omega)).mono ?_⟩
            rintro e wa ⟨v, rfl, ⟨y, rfl, hy⟩, hCa, hEa⟩
            obtain ⟨k, rfl⟩ := Int.eq_ofNat_of_zero_le hy.1
            have hk := Aside0.mk (show k < sigs.length by show k < 5; omega)
            have hCa' := Aside0.mk hCa
            have hEa' := Aside0.mk ((Ex.of_on (S := fun b => b = q) hS9.out).trans hEa fun _ _ h => h)
            have hba := Aside0.mk (blk_ex hEa'.out hb8.out (by have := hqw.out; have := hgg.out; omega))
            clear hCa hEa hy
            go_wp2
            refine ⟨hba.out, ?_⟩
            refine Reg.tG ?_
            go_wp2_with (go_at_call 139; refine Stop.out ?_)
            refine ⟨(l3One_calls w0 _ q hCa'.out).mono ?_⟩
            rintro e wb ⟨v, rfl, ⟨r, rfl⟩, hCb, hEb⟩
            have hCb' := Aside0.mk hCb
            have hEb' := Aside0.mk (hEa'.out.trans hEb fun _ _ h => h)
            have hbb := Aside0.mk (blk_ex hEb'.out hb8.out (by have := hqw.out; have := hgg.out; omega))
            have hrb := Aside0.mk (blk_ex hEb'.out hr8.out (by have := hqw.out; omega))
            have hIb := Aside0.mk (hI8.out.ex hEb'.out fun b hb => .inl (by have := hq1.out; omega))
            clear hCb hEb
            obtain ⟨gr, hgA, hgo, ⟨z0, hz0⟩, ⟨z1, hz1⟩, ⟨z2, hz2⟩, hfz, hset⟩ := hIb.out.r.setAt hk.out
            have hset' := Aside0.mk (hset r)
            have hgo' := Aside0.mk hgo
            have hgr := Aside0.mk (show w.heap.size + 1 ≤ gr ∧ gr ≠ g3 from ⟨own_base hIb.out.r gr hgo, hIb.out.nr gr hgo⟩)
            have hkb := hk.out
            clear hset hgo
            subst hgA
            go_wp2
            refine ⟨hbb.out, ?_⟩
            refine Reg.tG ?_
            go_wp2
            refine ⟨hbb.out, ?_⟩
            refine Reg.tE ?_
            obtain ⟨X, hX⟩ : ∃ X, ((wb.setCell ⟨gr, k * 3, none⟩ (.string r.1)).setCell ⟨gr, k * 3 + 1, none⟩ (.int .i64 r.2.1)).setCell ⟨gr, k * 3 + 2, none⟩ (.bool r.2.2) = X := ⟨_, rfl⟩
            have hX' := Aside0.mk hX
            have n1 : ¬ gr = g3 := hgr.out.2
            have n2 : ¬ gr = w.heap.size := by have := hgr.out.1; omega
            have hy11 := Aside0.mk (show (((wb.setCell ⟨gr, k * 3, none⟩ (.string r.1)).setCell ⟨gr, k * 3 + 1, none⟩ (.int .i64 r.2.1)).setCell ⟨gr, k * 3 + 2, none⟩ (.bool r.2.2)).heap[g3]? = _ from blk_far (blk_far (blk_far hbb.out (fun e => n1 e.symm) _) (fun e => n1 e.symm) _) (fun e => n1 e.symm) _)
            have hx11 := Aside0.mk (show (((wb.setCell ⟨gr, k * 3, none⟩ (.string r.1)).setCell ⟨gr, k * 3 + 1, none⟩ (.int .i64 r.2.1)).setCell ⟨gr, k * 3 + 2, none⟩ (.bool r.2.2)).heap[w.heap.size]? = _ from blk_far (blk_far (blk_far hrb.out (fun e => n2 e.symm) _) (fun e => n2 e.symm) _) (fun e => n2 e.symm) _)
            have hd0 := blk_cell hy11.out
            have hd1 := blk_cell hx11.out
            have hf1 := blk_frozen hx11.out
            clear hX n1 n2
            go_wp2
            refine bodyPost_ret (retI rfl rfl (g := w.heap.size) (blk_set (blk_set hx11.out 0 _) 1 _) rfl) rfl ?_
            have EX := ((Ex.set wb ⟨gr, k * 3, none⟩ (.string r.1)).trans (Ex.set _ ⟨gr, k * 3 + 1, none⟩ (.int .i64 r.2.1)) (fun _ _ h => h)).trans (Ex.set _ ⟨gr, k * 3 + 2, none⟩ (.bool r.2.2)) (fun _ _ h => h)
            have hb1 := hgr.out.1
            have hb2 := hqw.out
            have hb3 := hq0.out
            have hRS : RS (fun b => b ≤ w.heap.size ∨ b = g3) (((wb.setCell ⟨gr, k * 3, none⟩ (.string r.1)).setCell ⟨gr, k * 3 + 1, none⟩ (.int .i64 r.2.1)).setCell ⟨gr, k * 3 + 2, none⟩ (.bool r.2.2)) (.agg #[.slice (some ⟨gr, 0, none⟩) sigs.length d0, .slice A1 fs.length d1]) (sigs.set k r) fs := by
              have hf := own_ex hIb.out.f EX (fun i hi e => own_ne_blk hIb.out.f hIb.out.r (by decide) hi (e ▸ hgo'.out))
              have hs' : Sep (((wb.setCell ⟨gr, k * 3, none⟩ (.string r.1)).setCell ⟨gr, k * 3 + 1, none⟩ (.int .i64 r.2.1)).setCell ⟨gr, k * 3 + 2, none⟩ (.bool r.2.2)) (w.heap.size + 1) hs fs := hIb.out.s.ex EX (fun i a b ha hb e => by
                have hi : i < fs.length := by rw [← hIb.out.s.len]; exact (List.getElem?_eq_some_iff.1 ha).1
                exact own_ne_blk (hIb.out.s.at_ i a fs[i] ha (List.getElem?_eq_getElem hi)).2.1 hIb.out.r (by decide) hb (e ▸ hgo'.out))
              refine ⟨some ⟨gr, 0, none⟩, d0, A1, d1, hs, by rw [List.length_set], fun w' kk => ⟨?_, ?_, ?_⟩⟩
              · exact (OR.same (own_ex hset'.out kk (fun i hi e => by have := own_base hset'.out i hi; have := hIb.out.nr i hi; have := hS3.out i e; omega))).2
              · exact (OH.rh (own_ex hf kk (fun i hi e => by have := own_base hf i hi; have := hIb.out.nf i hi; have := hS3.out i e; omega))).2
              · exact (hs'.ex kk (fun i a b ha hb e => by have := (hs'.lt ha hb).1; have := hIb.out.ns i a b ha hb; have := hS3.out b e; omega)).reads
            exact inst_end hqw.out hq0.out (hRS.mono fun b h => .inl h) (by rw [List.length_set]; show 5 ≤ 5; omega) (by have := hfl.out.1; omega) hfl.out.2 (hCb'.out.ex EX (fun b hb => by have e' : b = gr := hb; omega)) ((hE8'.out.trans hEb'.out fun _ _ h => h).trans EX (fun i hi h => by have e' : i = gr := h; omega))
          · have b0 : (x == 0) = false := by simpa using hx0
            have b1 : (x == 1) = false := by simpa using hx1
            have b2 : (x == 2) = false := by simpa using hx2
            have hd1 := blk_cell hr8.out
            have hf1 := blk_frozen hr8.out
            clear hx0 hx1 hx2
            go_wp2
            refine bodyPost_ret (retI rfl rfl (g := w.heap.size) (blk_set (blk_set hr8.out 0 _) 1 _) rfl) rfl ?_
            exact inst_end hqw.out hq0.out ((hI8.out.rs hS3.out).mono fun b h => .inl h) (by show 5 ≤ 5; omega) (by have := hfl.out.1; omega) hfl.out.2 hC8'.out hE8'.out
  | true =>
    go_wp2_with (go_at_call 137; refine Stop.out ?_)
    refine ⟨(l5Source_calls w0 _ q hC2'.out 3 (by omega) (by omega)).mono ?_⟩
    rintro e w3 ⟨v, rfl, ⟨gs, hG, -, hgl, hgm⟩, hC3, hE3⟩
    have hg3w := Aside0.mk (show w.heap.size < w2.heap.size ∧ g3 < w2.heap.size from ⟨blk_lt hr2.out, blk_lt hb2.out⟩)
    obtain ⟨ur, uf, us, rfl, hIG⟩ := IW.of (g := g3) (lo := w.heap.size + 1) hG hg3w.out.1 (.inr hg3w.out.2)
    obtain ⟨B0, e0, rfl⟩ := own_slice hIG.r
    obtain ⟨B1, e1, rfl⟩ := own_slice hIG.f
    have hlb := Aside0.mk hIG.s.len
    rw [hlb.out] at hIG
    have hI3 := Aside0.mk hIG
    have hgf := Aside0.mk (show gs.length ≤ 3 ∧ ∀ f ∈ gs, f.2.length ≤ 2 from ⟨by omega, hgm⟩)
    have hC3' := Aside0.mk hC3
    have hr3 := Aside0.mk (blk_ex hE3 hr2.out (by have := hqw.out; omega))
    have hb3 := Aside0.mk (blk_ex hE3 hb2.out (by have := hqw.out; have := hgg.out; omega))
    have hE3' := Aside0.mk (hE2'.out.trans hE3 fun _ _ h => h)
    have hF3 := Aside0.mk (hI2.out.ex hE3 fun b hb => .inl (by have := hqw.out; omega))
    rw [hlb.out]
    clear hC3 hE3 hG hIG hgl hgm
    have hfill := alloc_fill w3
    go_wp2
    clear hfill
    obtain ⟨wc, hwc⟩ : ∃ wc, w3.alloc (.cells #[.slice B0 sigs.length e0, .slice B1 gs.length e1] 25 (0, 0)) = wc := ⟨_, rfl⟩
    have hl4 := Aside0.mk (show wc.heap[w3.heap.size]? = some (.cells #[.slice B0 sigs.length e0, .slice B1 gs.length e1] 25 (0, 0)) from hwc ▸ loc_new w3 _ _)
    have hbc := Aside0.mk (show On w3 wc from hwc ▸ On.alloc (On.refl _) _)
    rw [hwc]
    clear hwc
    have hg34 := Aside0.mk (show g3 < w3.heap.size ∧ q < w3.heap.size from ⟨blk_lt hb3.out, hC3'.out.lt⟩)
    obtain ⟨g4, hg4⟩ : ∃ g4, w3.heap.size = g4 := ⟨_, rfl⟩
    rw [hg4] at hl4 hg34 ⊢
    clear hg4
    have hS2 := Aside0.mk (show ∀ b, (b = q ∨ b = g3) → b < w.heap.size + 1 ∨ b = g3 from fun b hb => by have := hqw.out; omega)
    have hsrc := Aside0.mk ((hI3.out.on hbc.out).rs hS2.out)
    have htgt := Aside0.mk ((hF3.out.on hbc.out).rs hS2.out)
    have hbc3 := Aside0.mk (blk_below hb3.out hbc.out)
    go_loopw [5] (fun v5 wr => ∃ (k : Nat) (fs : List Fct) (A0 : Option Addr) (d0 : Nat) (A1 : Option Addr) (d1 : Nat), k ≤ gs.length ∧ v5 = .int .i64 k ∧ wr.heap[g3]? = some (.cells #[.slice A0 sigs.length d0, .slice A1 fs.length d1] 25 (0, 0)) ∧ RS (fun b => b = q ∨ b = g3) wr (.agg #[.slice A0 sigs.length d0, .slice A1 fs.length d1]) sigs fs ∧ Asc fs ∧ fs.length ≤ 5 + k ∧ (∀ f ∈ fs, f.2.length ≤ 2) ∧ Ex (fun b => b = g3) wc wr) (fun v5 _ => gs.length - (intOf v5).toNat)
    case atStart => exact ⟨0, fs, A0, d0, A1, d1, Nat.zero_le _, rfl, hbc3.out, htgt.out, hfa.out, by have := hfl.out.1; omega, hfl.out.2, Ex.refl _ _⟩
    case round =>
      obtain ⟨k, fs, A0, d0, A1, d1, hk, rfl, hbr, hR, ha, hl, hm, hE⟩ := hrel
      have hbr' := Aside0.mk hbr
      have hRr := Aside0.mk hR
      have ha' := Aside0.mk ha
      have hl' := Aside0.mk hl
      have hm' := Aside0.mk hm
      have hEr := Aside0.mk hE
      have hb4 := Aside0.mk (blk_ex hE hl4.out (by have := hg34.out; omega))
      have hd0 := blk_cell hbr 0
      have hd1 := blk_cell hbr 1
      have hd2 := blk_cell hb4.out 0
      have hd3 := blk_cell hb4.out 1
      have hCr := Aside0.mk ((hC3'.out.next hbc.out).ex hE (fun b hb => by have := hgg.out; have := hqw.out; have := hq0.out; omega))
      clear hbr hR ha hl hm hE
      by_cases hlt : k < gs.length
      · obtain ⟨_, _, us', hall⟩ := (hsrc.out.ex (hEr.out.mono fun _ h => .inr h)).parts
        obtain ⟨h1, h2, h3⟩ := hall wr (Ex.refl _ _)
        obtain ⟨ad, A3, c3, hA1, x0, x1, x2⟩ := (h2.fcts h3).at k hlt
        subst hA1
        have x2' := Aside0.mk x2
        have hkk := Aside0.mk hlt
        have hfk := Aside0.mk (show gs[k].2.length ≤ 2 from hgf.out.2 _ (List.getElem_mem hlt))
        obtain ⟨_, _, hs', hall'⟩ := hRr.out.parts
        have hall2 := Aside0.mk hall'
        clear x2 h1 h2 h3 hall hall'
        go_wp2
        refine Reg.region [(0,.L),(1,.L),(2,.L),(3,.L),(4,.L),(5,.L),(6,.N)] [7] (by kernel_rfl) (by kernel_rfl) ?_
        repeat first | refine sP ?_ | refine sS ?_ | refine sA ?_ | refine sL ?_ | refine sQ ?_ | refine sO ?_
        clear hd0 hd1 hd2 hd3 x0 x1
        refine callN Tryz.func81 (fun w4 hS4 => ?_)
        refine (l5PutS_calls (fun b => b = q ∨ b = g3) w4 A0 d0 A1 d1 hs' sigs fs (fun w' kk => hall2.out w' ((Ex.of_on hS4).trans kk fun _ _ h => h)) (fun b hb => by have := blk_lt (blk_below hbr'.out hS4); have := (hCr.out.next hS4).lt; rcases hb with h | h <;> omega) A3 c3 gs[k] (x2'.out.on hS4) (by have := hl'.out; have := hgf.out.1; omega) (by have := hfk.out; omega) ha'.out).mono ?_
        rintro e w5 ⟨v5, rfl, hR5, hb5⟩
        obtain ⟨fs', hfs⟩ : ∃ fs', putF fs gs[k] = fs' := ⟨_, rfl⟩
        rw [hfs] at hR5
        have hR5' := Aside0.mk hR5
        obtain ⟨C0, i0, C1, i1, hs'', rfl, -⟩ := hR5.out
        have ha6 := Aside0.mk (show Asc fs' from hfs ▸ putF_asc gs[k] fs ha'.out)
        have hl6 := Aside0.mk (show fs'.length ≤ fs.length + 1 from hfs ▸ putF_le fs gs[k])
        have hm6 := Aside0.mk (show ∀ g ∈ fs', g.2.length ≤ 2 by
          rw [← hfs]; intro g hg; rcases (mem_putF gs[k] g fs).1 hg with rfl | h
          · exact hfk.out
          · exact hm'.out g h)
        have hB5 := Aside0.mk (hS4.trans hb5)
        refine ⟨_, rfl, hb5, fun a' ha'' => ?_⟩
        simp only [Act.put, List.setIfInBounds_toArray, List.set_cons_zero, List.set_cons_succ] at ha''
        subst ha''
        clear hR5 hfs
        refine Reg.tail_ fun w6 hS6 => ?_
        have hb6 := Aside0.mk (blk_below hbr'.out (hB5.out.trans hS6))
        have hR6 := Aside0.mk (hR5'.out.on hS6)
        have hB6 := Aside0.mk (hB5.out.trans hS6)
        have hcr := blk_cell hb6.out
        have hfr := blk_frozen hb6.out
        clear hS6
        go_wp2
        have EE := (Ex.set w6 ⟨g3, 0, none⟩ (.slice C0 sigs.length i0)).trans (Ex.set _ ⟨g3, 1, none⟩ (.slice C1 fs'.length i1)) (fun _ _ h => h)
        have hk1 := hkk.out
        have hwk : wrap64 ((k : Int) + 1) = ((k + 1 : Nat) : Int) := by rw [IntWalk.wrap64_in _ (by have := hgf.out.1; omega)]; omega
        refine ⟨⟨k + 1, fs', C0, i0, C1, i1, by omega, by rw [hwk], blk_set (blk_set hb6.out 0 _) 1 _, hR6.out.ex (EE.mono fun _ h => .inr h), ha6.out, by have := hl'.out; have := hl6.out; omega, hm6.out, (hEr.out.then_on hB6.out).trans EE fun _ _ h => h⟩, by rw [hwk]; simp [intOf]; omega⟩
      · have hge : ¬ k < gs.length := hlt
        go_wp2_with (go_at_call 69; refine Stop.out ?_)
        obtain ⟨_, _, hs', hall⟩ := hRr.out.parts
        obtain ⟨h1, h2, h3⟩ := hall wr (Ex.refl _ _)
        refine ⟨(l5Copy_calls _ A0 d0 A1 d1 sigs fs h1 (h2.fcts h3) (by show (5 : Nat) ≤ _; omega) (by have := hl'.out; have := hgf.out.1; omega) (fun f hf => by have := hm'.out f hf; omega)).mono ?_⟩
        rintro e w7 ⟨v7, rfl, hI7, hb7⟩
        have hgl := Aside0.mk (blk_lt hbr'.out)
        obtain ⟨vr, vf, hs, rfl, hIW0⟩ := IW.of (g := g3) (lo := w.heap.size + 1) hI7 (by have := hgl.out; have := hgg.out; omega) (.inr hgl.out)
        obtain ⟨A0, d0, rfl⟩ := own_slice hIW0.r
        obtain ⟨A1, d1, rfl⟩ := own_slice hIW0.f
        have hlz := Aside0.mk hIW0.s.len
        rw [hlz.out] at hIW0 ⊢
        have hIW1 := Aside0.mk hIW0
        have hb7' := Aside0.mk hb7
        have hbx7 := Aside0.mk (blk_below hbr'.out hb7)
        have hrx7 := Aside0.mk (blk_below (blk_ex hEr.out (blk_below hr3.out hbc.out) (by have := hgg.out; omega)) hb7)
        have hfx := Aside0.mk (show fs.length ≤ 100 ∧ ∀ f ∈ fs, f.2.length ≤ 3 from ⟨by have := hl'.out; have := hgf.out.1; omega, fun f hf => by have := hm'.out f hf; omega⟩)
        have hcr := blk_cell hbx7.out
        have hfr := blk_frozen hbx7.out
        clear hIW0 hb7 hI7 hfl h1 h2 h3 hall hd0 hd1 hd2 hd3 hge hlt
        go_wp2_with (go_at_call 138; refine Stop.out ?_)
        refine ⟨?_⟩
        have hq5 := hqw.out
        have hq6 := hgg.out
        have hq7 := hq0.out
        have EE := (Ex.set w7 ⟨g3, 0, none⟩ (.slice A0 sigs.length d0)).trans (Ex.set _ ⟨g3, 1, none⟩ (.slice A1 fs.length d1)) (fun _ _ h => h)
        have hIW := Aside0.mk (hIW1.out.ex EE fun b hb => .inr hb)
        have hbx := Aside0.mk (blk_set (blk_set hbx7.out 0 (.slice A0 sigs.length d0)) 1 (.slice A1 fs.length d1))
        have hrx := Aside0.mk (blk_ex EE hrx7.out (fun e => by have e' : w.heap.size = g3 := e; omega))
        have hCx := Aside0.mk ((hCr.out.next hb7'.out).ex EE (fun b hb => by have e' : b = g3 := hb; omega))
        have hEx := Aside0.mk ((((hE3'.out.then_on hbc.out).trans hEr.out (fun i hi h => by have e' : i = g3 := h; omega)).then_on hb7'.out).trans EE (fun i hi h => by have e' : i = g3 := h; omega))
        have hfl := hfx
        clear hcr hfr EE hq5 hq6 hq7
        obtain ⟨wx, hwx⟩ : ∃ wx, (w7.setCell ⟨g3, 0, none⟩ (.slice A0 sigs.length d0)).setCell ⟨g3, 1, none⟩ (.slice A1 fs.length d1) = wx := ⟨_, rfl⟩
        rw [hwx] at hIW hbx hrx hCx hEx ⊢
        clear hwx
        as_aux_lemma =>
          refine (l1Below_calls w0 _ q hCx.out 14 (by omega) (by omega)).mono ?_
          rintro e w8 ⟨v, rfl, ⟨x, rfl, hx⟩, hC8, hE8⟩
          have hC8' := Aside0.mk hC8
          have hq1 := Aside0.mk (show q < w.heap.size + 1 by have := hqw.out; omega)
          have hI8 := Aside0.mk (hIW.out.ex hE8 fun b hb => .inl (by have := hq1.out; omega))
          have hb8 := Aside0.mk (blk_ex hE8 hbx.out (by have := hqw.out; have := hgg.out; omega))
          have hr8 := Aside0.mk (blk_ex hE8 hrx.out (by have := hqw.out; omega))
          have hE8' := Aside0.mk (hEx.out.trans hE8 fun _ _ h => h)
          have hS3 := Aside0.mk (show ∀ b, (b ≤ w.heap.size ∨ b = g3) → b < w.heap.size + 1 ∨ b = g3 from fun b hb => by have := hqw.out; omega)
          clear hC8 hE8 hx
          have hd0 := blk_cell hb8.out
          have hf0 := blk_frozen hb8.out
          by_cases hx0 : x = 0
          · subst hx0
            go_wp2
            refine Reg.regionG (fun w' => w'.heap[g3]? = some (.cells #[.slice A0 sigs.length d0, .slice A1 fs.length d1] 25 (0, 0))) [0,1,2] [3,4,5,6,7] 7 (by kernel_rfl) (by kernel_rfl) hb8.out ?_
            repeat refine Reg.sG ?_
            refine Reg.startG ?_
            obtain ⟨w9, hw9⟩ : ∃ w9, ({ w8 with drawn := w8.drawn + 1 } : World) = w9 := ⟨_, rfl⟩
            have hS9 := Aside0.mk (show On w8 w9 from (hw9 ▸ on_draw w8))
            rw [hw9]
            clear hw9 hd0 hf0
            refine Reg.tG ?_
            go_wp2_with (go_at_call 116; refine Stop.out ?_)
            refine ⟨(l4Any_calls w0 _ q (hC8'.out.next hS9.out)).mono ?_⟩
            rintro e wa ⟨v, rfl, ⟨f, hO, hf3⟩, hCa, hEa⟩
            obtain ⟨va, rfl, hO, hIr⟩ := hO.out
            obtain ⟨Aa, ca, rfl⟩ := own_slice hO
            have hlo9 := Aside0.mk (show w.heap.size + 1 ≤ w9.heap.size ∧ g3 < w9.heap.size ∧ q < w9.heap.size from ⟨blk_lt (blk_below hr8.out hS9.out), blk_lt (blk_below hb8.out hS9.out), (hC8'.out.next hS9.out).lt⟩)
            have hOa := Aside0.mk hO
            have hIr' := Aside0.mk hIr
            have hf3' := Aside0.mk hf3
            have hCa' := Aside0.mk hCa
            have hEa' := Aside0.mk ((Ex.of_on (S := fun b => b = q) hS9.out).trans hEa fun _ _ h => h)
            have hba := Aside0.mk (blk_ex hEa'.out hb8.out (by have := hqw.out; have := hgg.out; omega))
            have hra := Aside0.mk (blk_ex hEa'.out hr8.out (by have := hqw.out; omega))
            have hIa := Aside0.mk (hI8.out.ex hEa'.out fun b hb => .inl (by have := hq1.out; omega))
            clear hCa hEa hO hIr hf3
            go_wp2
            refine ⟨hba.out, ?_⟩
            refine Reg.tG ?_
            go_wp2
            obtain ⟨wb, hwb⟩ : ∃ wb, wa.alloc (.cells #[.int .i64 f.1, .slice Aa f.2.length ca] 60 (0, 0)) = wb := ⟨_, rfl⟩
            have hSb := Aside0.mk (show On wa wb from hwb ▸ On.alloc (On.refl _) _)
            have hRb := Aside0.mk (show RH wb (some ⟨wa.heap.size, 0, none⟩) 1 [(f.1, Aa, f.2.length, ca)] from lit_RH (hwb ▸ On.refl _))
            have hIb := Aside0.mk (hIa.out.on hSb.out)
            have hbb := Aside0.mk (blk_below hba.out hSb.out)
            have hrb := Aside0.mk (blk_below hra.out hSb.out)
            try rw [hwb]
            clear hwb
            refine ⟨hbb.out, ?_⟩
            refine Reg.tG ?_
            obtain ⟨zs, hzs⟩ : ∃ zs, hs ++ [((f.1, Aa, f.2.length, ca) : Hdr)] = zs := ⟨_, rfl⟩
            have hhl := Aside0.mk hIb.out.s.len
            refine apH 37 hzs hIb.out.f hRb.out (by have := blk_lt hrb.out; omega) (by have := hhl.out; have := hfl.out.1; simp; omega) (fun v11 w11 hO11 hg11 => ?_)
            have hO11' := Aside0.mk hO11
            have hGr := Aside0.mk (Ex.of_grown hg11)
            have hb11 := Aside0.mk (blk_ex hGr.out hbb.out (fun e => hIb.out.nf _ e.symm rfl))
            have hr11 := Aside0.mk (blk_ex hGr.out hrb.out (fun e => by have := own_base hIb.out.f _ e.symm; omega))
            clear hO11 hg11
            obtain ⟨A11, c11, rfl⟩ := own_slice hO11'.out
            refine ⟨hb11.out, ?_⟩
            have hd6 := blk_cell hb11.out
            have hf6 := blk_frozen hb11.out
            simp only [Act.put, List.setIfInBounds_toArray, List.set_cons_zero, List.set_cons_succ]
            refine Reg.tG ?_
            go_wp2
            refine ⟨hb11.out, ?_⟩
            refine Reg.tE ?_
            have hx11 := Aside0.mk (show (w11.setCell ⟨g3, 1, none⟩ (.slice A11 zs.length c11)).heap[w.heap.size]? = _ from blk_far hr11.out (by show ¬ _; simp; have := hgg.out; omega) _)
            have hy11 := Aside0.mk (blk_set hb11.out 1 (.slice A11 zs.length c11))
            have hd1 := blk_cell hx11.out
            have hf1 := blk_frozen hx11.out
            go_wp2
            refine bodyPost_ret (retI rfl rfl (g := w.heap.size) (blk_set (blk_set hx11.out 0 _) 1 _) rfl) rfl ?_
            have EX := Ex.set w11 ⟨g3, 1, none⟩ (.slice A11 zs.length c11)
            have hb1 := hgg.out
            have hb2 := hqw.out
            have hb3 := hq0.out
            have hb4 := hlo9.out
            have hzl : zs.length = (fs ++ [f]).length := by rw [← hzs]; simp; exact hhl.out
            have hRS : RS (fun b => b ≤ w.heap.size ∨ b = g3) w11 (.agg #[.slice A0 sigs.length d0, .slice A11 zs.length c11]) sigs (fs ++ [f]) := by
              have hIo := own_ex (pw_own_below hOa.out hSb.out) hGr.out (fun i hi e => own_ne_blk (pw_own_below hOa.out hSb.out) hIb.out.f (by decide) hi e.symm)
              refine ⟨A0, d0, A11, c11, zs, by rw [hzl], fun w' k => ⟨?_, ?_, ?_⟩⟩
              · have h1 := own_ex hIb.out.r hGr.out (fun i hi e => own_ne_blk hIb.out.r hIb.out.f (by decide) hi e.symm)
                exact (OR.same (own_ex h1 k (fun i hi e => by have := own_base h1 i hi; have := hIb.out.nr i hi; have := hS3.out i e; omega))).2
              · exact (OH.rh (own_ex hO11'.out k (fun i hi e => by have := own_base hO11'.out i hi; have := own_off hO11'.out hb11.out (by decide) i hi; have := hS3.out i e; omega))).2
              · rw [← hzs]
                refine Reads.append ?_ (Reads.one rfl rfl (OI.same (own_ex hIo k (fun i hi e => by have := own_base hOa.out i hi; omega)) hIr'.out).2)
                have h1 : Sep w11 (w.heap.size + 1) hs fs := hIb.out.s.ex hGr.out (fun i a b ha hb e => by
                  have hi : i < fs.length := by rw [← hIb.out.s.len]; exact (List.getElem?_eq_some_iff.1 ha).1
                  exact own_ne_blk (hIb.out.s.at_ i a fs[i] ha (List.getElem?_eq_getElem hi)).2.1 hIb.out.f (by decide) hb e.symm)
                exact (h1.ex k (fun i a b ha hb e => by have := (h1.lt ha hb).1; have := hIb.out.ns i a b ha hb; have := hS3.out b e; omega)).reads
            have hCE := ((hCa'.out.next hSb.out).ex hGr.out (fun b hb => by have := own_base hIb.out.f b hb.symm; omega)).ex EX (fun b hb => by have e' : b = g3 := hb; omega)
            have hEE := (((hE8'.out.trans hEa'.out fun _ _ h => h).then_on hSb.out).trans hGr.out (fun i hi h => by have := own_base hIb.out.f i h.symm; omega)).trans EX (fun i hi h => by have e' : i = g3 := h; omega)
            exact inst_end hqw.out hq0.out ((hRS.ex (EX.mono fun _ h => .inr h)).mono fun b h => .inl h) (by show 5 ≤ 5; omega) (by have := hfl.out.1; simp; omega) (fun g hg => (List.mem_append.1 hg).elim (fun h => hfl.out.2 g h) (fun h => by rw [List.mem_singleton.1 h]; exact hf3'.out)) hCE hEE
          · by_cases hx1 : x = 1
            · subst hx1
              obtain ⟨hcA, hRA⟩ := OR.same hI8.out.r
              have hcap := Aside0.mk hRA.1
              go_wp2_with (refine gate 43 ?_)
              refine ⟨slR 43 (k := 1) (A := A0) (n := sigs.length) (c := d0) (by show 1 ≤ 5; omega) hcap.out ?_⟩
              obtain ⟨Ac, hAc⟩ : ∃ Ac, (if d0 = 1 then A0 else A0.map (·.add (1 * 3))) = Ac := ⟨_, rfl⟩
              obtain ⟨dc, hdc⟩ : ∃ dc, d0 - 1 = dc := ⟨_, rfl⟩
              have hRS := Aside0.mk (show RS (fun b => b ≤ w.heap.size ∨ b = g3) w8 (.agg #[.slice Ac (sigs.length - 1) dc, .slice A1 fs.length d1]) (sigs.drop 1) fs from by
                refine ⟨Ac, dc, A1, d1, hs, rfl, fun w' k => ?_⟩
                have h' := hI8.out.ex k hS3.out
                refine ⟨?_, (OH.rh h'.f).2, h'.s.reads⟩
                rw [← hAc, ← hdc]
                exact drop1 (OR.same h'.r).2 (by show 1 ≤ 5; omega))
              rw [hAc, hdc]
              clear hAc hdc hcA hRA
              obtain ⟨m4, hm4⟩ : ∃ m4, sigs.length - 1 = m4 := ⟨_, rfl⟩
              rw [hm4] at hRS ⊢
              clear hm4
              simp only [Act.put, List.setIfInBounds_toArray, List.set_cons_zero, List.set_cons_succ]
              have hx8 := Aside0.mk (show (w8.setCell ⟨g3, 0, none⟩ (.slice Ac m4 dc)).heap[w.heap.size]? = _ from blk_far hr8.out (by show ¬ _; simp; have := hgg.out; omega) _)
              have hd1 := blk_cell hx8.out
              have hf1 := blk_frozen hx8.out
              go_wp2
              refine bodyPost_ret (retI rfl rfl (g := w.heap.size) (blk_set (blk_set hx8.out 0 _) 1 _) rfl) rfl ?_
              have EX := Ex.set w8 ⟨g3, 0, none⟩ (.slice Ac m4 dc)
              have hb1 := hgg.out
              have hb2 := hqw.out
              have hb3 := hq0.out
              exact inst_end hqw.out hq0.out ((hRS.out.ex (EX.mono fun _ h => .inr h)).mono fun b h => .inl h) (by show 4 ≤ 5; omega) (by have := hfl.out.1; omega) hfl.out.2 (hC8'.out.ex EX (fun b hb => by have e' : b = g3 := hb; omega)) (hE8'.out.trans EX (fun i hi h => by have e' : i = g3 := h; omega))
            · by_cases hx2 : x = 2
              · subst hx2
                go_wp2
                refine Reg.regionG (fun w' => w'.heap[g3]? = some (.cells #[.slice A0 sigs.length d0, .slice A1 fs.length d1] 25 (0, 0))) [0,1,2,4] [3,5,6,7] 7 (by kernel_rfl) (by kernel_rfl) hb8.out ?_
                repeat refine Reg.sG ?_
                refine Reg.startG ?_
                obtain ⟨w9, hw9⟩ : ∃ w9, ({ w8 with drawn := w8.drawn + 1 } : World) = w9 := ⟨_, rfl⟩
                have hS9 := Aside0.mk (show On w8 w9 from (hw9 ▸ on_draw w8))
                rw [hw9]
                clear hw9 hd0 hf0
                refine Reg.tG ?_
                go_wp2_with (go_at_call 138; refine Stop.out ?_)
                refine ⟨(l1Below_calls w0 _ q (hC8'.out.next hS9.out) 5 (by omega) (by omega)).mono ?_⟩
                rintro e wa ⟨v, rfl, ⟨y, rfl, hy⟩, hCa, hEa⟩
                obtain ⟨k, rfl⟩ := Int.eq_ofNat_of_zero_le hy.1
                have hk := Aside0.mk (show k < sigs.length by show k < 5; omega)
                have hCa' := Aside0.mk hCa
                have hEa' := Aside0.mk ((Ex.of_on (S := fun b => b = q) hS9.out).trans hEa fun _ _ h => h)
                have hba := Aside0.mk (blk_ex hEa'.out hb8.out (by have := hqw.out; have := hgg.out; omega))
                clear hCa hEa hy
                go_wp2
                refine ⟨hba.out, ?_⟩
                refine Reg.tG ?_
                go_wp2_with (go_at_call 139; refine Stop.out ?_)
                refine ⟨(l3One_calls w0 _ q hCa'.out).mono ?_⟩
                rintro e wb ⟨v, rfl, ⟨r, rfl⟩, hCb, hEb⟩
                have hCb' := Aside0.mk hCb
                have hEb' := Aside0.mk (hEa'.out.trans hEb fun _ _ h => h)
                have hbb := Aside0.mk (blk_ex hEb'.out hb8.out (by have := hqw.out; have := hgg.out; omega))
                have hrb := Aside0.mk (blk_ex hEb'.out hr8.out (by have := hqw.out; omega))
                have hIb := Aside0.mk (hI8.out.ex hEb'.out fun b hb => .inl (by have := hq1.out; omega))
                clear hCb hEb
                obtain ⟨gr, hgA, hgo, ⟨z0, hz0⟩, ⟨z1, hz1⟩, ⟨z2, hz2⟩, hfz, hset⟩ := hIb.out.r.setAt hk.out
                have hset' := Aside0.mk (hset r)
                have hgo' := Aside0.mk hgo
                have hgr := Aside0.mk (show w.heap.size + 1 ≤ gr ∧ gr ≠ g3 from ⟨own_base hIb.out.r gr hgo, hIb.out.nr gr hgo⟩)
                have hkb := hk.out
                clear hset hgo
                subst hgA
                go_wp2
                refine ⟨hbb.out, ?_⟩
                refine Reg.tG ?_
                go_wp2
                refine ⟨hbb.out, ?_⟩
                refine Reg.tE ?_
                obtain ⟨X, hX⟩ : ∃ X, ((wb.setCell ⟨gr, k * 3, none⟩ (.string r.1)).setCell ⟨gr, k * 3 + 1, none⟩ (.int .i64 r.2.1)).setCell ⟨gr, k * 3 + 2, none⟩ (.bool r.2.2) = X := ⟨_, rfl⟩
                have hX' := Aside0.mk hX
                have n1 : ¬ gr = g3 := hgr.out.2
                have n2 : ¬ gr = w.heap.size := by have := hgr.out.1; omega
                have hy11 := Aside0.mk (show (((wb.setCell ⟨gr, k * 3, none⟩ (.string r.1)).setCell ⟨gr, k * 3 + 1, none⟩ (.int .i64 r.2.1)).setCell ⟨gr, k * 3 + 2, none⟩ (.bool r.2.2)).heap[g3]? = _ from blk_far (blk_far (blk_far hbb.out (fun e => n1 e.symm) _) (fun e => n1 e.symm) _) (fun e => n1 e.symm) _)
                have hx11 := Aside0.mk (show (((wb.setCell ⟨gr, k * 3, none⟩ (.string r.1)).setCell ⟨gr, k * 3 + 1, none⟩ (.int .i64 r.2.1)).setCell ⟨gr, k * 3 + 2, none⟩ (.bool r.2.2)).heap[w.heap.size]? = _ from blk_far (blk_far (blk_far hrb.out (fun e => n2 e.symm) _) (fun e => n2 e.symm) _) (fun e => n2 e.symm) _)
                have hd0 := blk_cell hy11.out
                have hd1 := blk_cell hx11.out
                have hf1 := blk_frozen hx11.out
                clear hX n1 n2
                go_wp2
                refine bodyPost_ret (retI rfl rfl (g := w.heap.size) (blk_set (blk_set hx11.out 0 _) 1 _) rfl) rfl ?_
                have EX := ((Ex.set wb ⟨gr, k * 3, none⟩ (.string r.1)).trans (Ex.set _ ⟨gr, k * 3 + 1, none⟩ (.int .i64 r.2.1)) (fun _ _ h => h)).trans (Ex.set _ ⟨gr, k * 3 + 2, none⟩ (.bool r.2.2)) (fun _ _ h => h)
                have hb1 := hgr.out.1
                have hb2 := hqw.out
                have hb3 := hq0.out
                have hRS : RS (fun b => b ≤ w.heap.size ∨ b = g3) (((wb.setCell ⟨gr, k * 3, none⟩ (.string r.1)).setCell ⟨gr, k * 3 + 1, none⟩ (.int .i64 r.2.1)).setCell ⟨gr, k * 3 + 2, none⟩ (.bool r.2.2)) (.agg #[.slice (some ⟨gr, 0, none⟩) sigs.length d0, .slice A1 fs.length d1]) (sigs.set k r) fs := by
                  have hf := own_ex hIb.out.f EX (fun i hi e => own_ne_blk hIb.out.f hIb.out.r (by decide) hi (e ▸ hgo'.out))
                  have hs' : Sep (((wb.setCell ⟨gr, k * 3, none⟩ (.string r.1)).setCell ⟨gr, k * 3 + 1, none⟩ (.int .i64 r.2.1)).setCell ⟨gr, k * 3 + 2, none⟩ (.bool r.2.2)) (w.heap.size + 1) hs fs := hIb.out.s.ex EX (fun i a b ha hb e => by
                    have hi : i < fs.length := by rw [← hIb.out.s.len]; exact (List.getElem?_eq_some_iff.1 ha).1
                    exact own_ne_blk (hIb.out.s.at_ i a fs[i] ha (List.getElem?_eq_getElem hi)).2.1 hIb.out.r (by decide) hb (e ▸ hgo'.out))
                  refine ⟨some ⟨gr, 0, none⟩, d0, A1, d1, hs, by rw [List.length_set], fun w' kk => ⟨?_, ?_, ?_⟩⟩
                  · exact (OR.same (own_ex hset'.out kk (fun i hi e => by have := own_base hset'.out i hi; have := hIb.out.nr i hi; have := hS3.out i e; omega))).2
                  · exact (OH.rh (own_ex hf kk (fun i hi e => by have := own_base hf i hi; have := hIb.out.nf i hi; have := hS3.out i e; omega))).2
                  · exact (hs'.ex kk (fun i a b ha hb e => by have := (hs'.lt ha hb).1; have := hIb.out.ns i a b ha hb; have := hS3.out b e; omega)).reads
                exact inst_end hqw.out hq0.out (hRS.mono fun b h => .inl h) (by rw [List.length_set]; show 5 ≤ 5; omega) (by have := hfl.out.1; omega) hfl.out.2 (hCb'.out.ex EX (fun b hb => by have e' : b = gr := hb; omega)) ((hE8'.out.trans hEb'.out fun _ _ h => h).trans EX (fun i hi h => by have e' : i = gr := h; omega))
              · have b0 : (x == 0) = false := by simpa using hx0
                have b1 : (x == 1) = false := by simpa using hx1
                have b2 : (x == 2) = false := by simpa using hx2
                have hd1 := blk_cell hr8.out
                have hf1 := blk_frozen hr8.out
                clear hx0 hx1 hx2
                go_wp2
                refine bodyPost_ret (retI rfl rfl (g := w.heap.size) (blk_set (blk_set hr8.out 0 _) 1 _) rfl) rfl ?_
                exact inst_end hqw.out hq0.out ((hI8.out.rs hS3.out).mono fun b h => .inl h) (by show 5 ≤ 5; omega) (by have := hfl.out.1; omega) hfl.out.2 hC8'.out hE8'.out
end Go.Proofs.YtgemaohdlibboaaGreatDoor.H
