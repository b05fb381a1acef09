/- Walks and plain laws for the law FnRelationAndFactFormat, part 3 of 4: the texts HC2, HC3, HF7, HF8, HG23, HG4, HG4s, HG6, HG7, HG8, HF5, HF6, HE, HK1, HC4, HF15, HG24, HF9, HG26, HG9, HG10, HG11, HG12, HC5, HG13, HO3 in one. No condition. -/
import Derived.Lib.IndexBytes
import Derived.Test.YtgemaohdlibboaaGreatDoorShelf
import Derived.Test.YtgemaohdlibboaaGreatDoorZFnRelationAndFactFormat2
/- Walks: the program's own valid facts and their order. No condition. -/
namespace Go.Proofs.YtgemaohdlibboaaGreatDoor.H
open Go Go.RowKit Go.Proofs.YtgemaohdlibboaaGreatDoorW.PrintWords Go.Proofs.YtgemaohdlibboaaGreatDoorW.PrintLast
open Go.Proofs.YtgemaohdlibboaaGreatDoor.Reg (On on_draw)
set_option maxHeartbeats 1000000
set_option maxRecDepth 100000
set_option linter.unusedVariables false
set_option linter.unusedSimpArgs false

theorem badValue_calls (w : World) (v : Int) : Calls Tryz.prog 124 #[.int .i64 v] w fun e w' => e = .returned (.bool (!okVal v)) ∧ On w w' := by
  go_enter Tryz.func124, Tryz.ntmps124
  go_wp2_with (go_at_call 92; refine (iIsValidValue_calls _ _).mono ?_; rintro e w1 ⟨rfl, hb1⟩)
  go_ret
  exact ⟨rfl, hb1⟩
theorem IndexFuncV_calls (w : World) (A c) (vs : List Int) (h : Ints w A c vs) : Calls Tryz.prog 172 #[.slice A vs.length c, .func (.func 124) #[] #[]] w fun e w' => e = .returned (.int .i64 (idxFrom (fun v => !okVal v) vs 0)) ∧ On w w' := by
  have hmax := h.max
  go_enter Tryz.func172, Tryz.ntmps172
  go_wp2
  go_loopw [8] (fun v wr => ∃ k : Nat, k ≤ vs.length ∧ v = .int .i64 k ∧ Hid (idxFrom (fun v => !okVal v) (vs.drop k) k = idxFrom (fun v => !okVal v) vs 0) ∧ On w wr) (fun v _ => vs.length - (intOf v).toNat)
  case atStart => exact ⟨0, Nat.zero_le _, rfl, rfl, On.refl _⟩
  case round =>
    obtain ⟨k, hk, rfl, hp, hB⟩ := hrel
    by_cases hlt : k < vs.length
    · obtain ⟨ad, rfl, hx⟩ := (h.on hB).at k hlt
      have hst := Aside0.mk ((idxFrom_step (fun v => !okVal v) vs k hlt).symm.trans hp.out)
      clear hp
      cases hv : okVal vs[k] with
      | false =>
        have hv' := Aside0.mk hv
        clear hv
        go_wp2_with (go_at_call 124; refine (badValue_calls _ _).mono ?_; rintro e w3 ⟨rfl, hb3⟩; rw [hv'.out])
        go_ret
        exact ⟨ret_int (by have := hst.out; rw [hv'.out, if_pos (by rfl)] at this; exact this), hB.trans hb3⟩
      | true =>
        have hv' := Aside0.mk hv
        clear hv
        go_wp2_with (go_at_call 124; refine (badValue_calls _ _).mono ?_; rintro e w3 ⟨rfl, hb3⟩; rw [hv'.out])
        go_roundw
        case rel => exact ⟨k + 1, by omega, by go_num, (by have := hst.out; rwa [hv'.out, if_neg (by simp)] at this : _ = _), hB.trans hb3⟩
        case measure => simp [intOf]; omega
    · go_wp2
      go_ret
      exact ⟨ret_int (by rw [← hp.out, List.drop_of_length_le (by omega)]; rfl), hB⟩
theorem ContainsFuncV_calls (w : World) (A c) (vs : List Int) (h : Ints w A c vs) : Calls Tryz.prog 123 #[.slice A vs.length c, .func (.func 124) #[] #[]] w fun e w' => e = .returned (.bool (vs.any fun v => !okVal v)) ∧ On w w' := by
  go_enter Tryz.func123, Tryz.ntmps123
  go_wp2_with (go_at_call 172; refine (IndexFuncV_calls w A c vs h).mono ?_; rintro e w3 ⟨rfl, hb3⟩)
  go_ret
  exact ⟨ret_bool (idxFrom_any _ vs 0), hb3⟩
theorem iIsValidFact_calls (w : World) (A c) (rs : List Rel) (B d) (f : Fct) (h0 : Rels w A c rs) (h1 : Ints w B d f.2) : Calls Tryz.prog 50 #[.slice A rs.length c, .agg #[.int .i64 f.1, .slice B f.2.length d]] w fun e w' => e = .returned (.bool (okFact rs f)) ∧ On w w' := by
  have hm0 := h0.max
  have hm1 := h1.max
  have hw1 : IntKind.i64.wrap ((rs.length : Int) - 1) = (rs.length : Int) - 1 := IntWalk.i64_in _ (by omega)
  cases hr : okRels rs with
  | false =>
    have hr' := Aside0.mk hr
    clear hr
    go_enter Tryz.func50, Tryz.ntmps50
    go_wp2
    refine Reg.region [(0,.L),(1,.C),(2,.L),(3,.L),(4,.L),(5,.L),(6,.L),(7,.L),(8,.L),(9,.C),(10,.L),(11,.L),(12,.L),(13,.L),(14,.L),(15,.L),(16,.L),(17,.L),(18,.L),(19,.L),(20,.L),(21,.L),(22,.L),(23,.L)] [] (by kernel_rfl) (by kernel_rfl) ?_
    repeat first | refine sP ?_ | refine sS ?_ | refine sA ?_ | refine sL ?_ | refine sQ ?_ | refine sO ?_
    refine callC (.bool false) Tryz.func49 (fun w' hS => ?_) ?_
    focus exact (iAreValidRelations_calls w' A c rs (h0.on ((On.alloc (On.refl _) _).trans hS))).mono fun e w'' h => ⟨by rw [h.1, hr'.out], h.2⟩
    repeat first | refine sP ?_ | refine sS ?_ | refine sA ?_ | refine sL ?_ | refine sQ ?_ | refine sO ?_
    refine Reg.nil fun w2 hS => ?_
    go_wp2
    go_ret
    exact ⟨ret_bool (by simp [okFact, hr'.out]), (On.alloc (On.refl _) _).trans hS⟩
  | true =>
    have hr' := Aside0.mk hr
    clear hr
    cases hi : within f.1 0 ((rs.length : Int) - 1) with
    | false =>
      have hi' := Aside0.mk hi
      clear hi
      go_enter Tryz.func50, Tryz.ntmps50
      go_wp2
      refine Reg.region [(0,.L),(1,.C),(2,.L),(3,.L),(4,.L),(5,.L),(6,.L),(7,.L),(8,.L),(9,.C),(10,.L),(11,.L),(12,.L),(13,.L),(14,.L),(15,.L),(16,.L),(17,.L),(18,.L),(19,.L),(20,.L),(21,.L),(22,.L),(23,.L)] [] (by kernel_rfl) (by kernel_rfl) ?_
      repeat first | refine sP ?_ | refine sS ?_ | refine sA ?_ | refine sL ?_ | refine sQ ?_ | refine sO ?_
      refine callC (.bool true) Tryz.func49 (fun w' hS => ?_) ?_
      focus exact (iAreValidRelations_calls w' A c rs (h0.on ((On.alloc (On.refl _) _).trans hS))).mono fun e w'' h => ⟨by rw [h.1, hr'.out], h.2⟩
      repeat first | refine sP ?_ | refine sS ?_ | refine sA ?_ | refine sL ?_ | refine sQ ?_ | refine sO ?_
      refine callC (.bool false) Tryz.func91 (fun w' hS => ?_) ?_
      focus exact (within_calls w' _ _ _).mono fun e w'' h => ⟨by rw [h.1, hi'.out], h.2⟩
      repeat first | refine sP ?_ | refine sS ?_ | refine sA ?_ | refine sL ?_ | refine sQ ?_ | refine sO ?_
      refine Reg.nil fun w2 hS => ?_
      go_wp2
      go_ret
      exact ⟨ret_bool (by have := hi'.out; simp [within] at this; simp [okFact]; intros; omega), (On.alloc (On.refl _) _).trans hS⟩
    | true =>
      have hi' := Aside0.mk hi
      have hi2 : 0 ≤ f.1 ∧ f.1 ≤ (rs.length : Int) - 1 := by simpa [within] using hi
      clear hi
      rcases f with ⟨r, vs⟩
      obtain ⟨m, rfl⟩ : ∃ m : Nat, r = m := ⟨r.toNat, by omega⟩
      have hm : m < rs.length := by omega
      have har : arity rs (m : Int) = rs[m].2.1 := by simp [arity, hm]
      clear hi2
      dsimp only at *
      obtain ⟨ad, rfl, hx0, hx1, hx2⟩ := h0.at m hm
      have hbx := Aside0.mk (On.alloc (On.refl w) (.cells #[.int .i64 m, .slice B vs.length d] 60))
      have hx1' := (hbx.out.eq _ (by rw [hx1]; rfl)).trans hx1
      clear hx0 hx1 hx2
      cases hl : decide ((vs.length : Int) = rs[m].2.1) with
      | false =>
        have hl1 : ((vs.length : Int) == rs[m].2.1) = false := hl
        have hl2 : ((vs.length : Int) != rs[m].2.1) = true := by simp [bne, hl1]
        have hl' := Aside0.mk hl
        clear hl
        go_enter Tryz.func50, Tryz.ntmps50
        go_wp2
        refine Reg.region [(0,.L),(1,.C),(2,.L),(3,.L),(4,.L),(5,.L),(6,.L),(7,.L),(8,.L),(9,.C),(10,.L),(11,.L),(12,.L),(13,.L),(14,.L),(15,.L),(16,.L),(17,.L),(18,.L),(19,.L),(20,.L),(21,.L),(22,.L),(23,.L)] [] (by kernel_rfl) (by kernel_rfl) ?_
        repeat first | refine sP ?_ | refine sS ?_ | refine sA ?_ | refine sL ?_ | refine sQ ?_ | refine sO ?_
        refine callC (.bool true) Tryz.func49 (fun w' hS => ?_) ?_
        focus exact (iAreValidRelations_calls w' (some ad) c rs (h0.on (hbx.out.trans hS))).mono fun e w'' h => ⟨by rw [h.1, hr'.out], h.2⟩
        repeat first | refine sP ?_ | refine sS ?_ | refine sA ?_ | refine sL ?_ | refine sQ ?_ | refine sO ?_
        refine callC (.bool true) Tryz.func91 (fun w' hS => ?_) ?_
        focus exact (within_calls w' _ _ _).mono fun e w'' h => ⟨by rw [h.1, hi'.out], h.2⟩
        repeat first | refine sP ?_ | refine sS ?_ | refine sA ?_ | refine sL ?_ | refine sQ ?_ | refine sO ?_
        refine Reg.nil fun w2 hS => ?_
        go_wp2
        go_ret
        have e1 : decide ((vs.length : Int) = arity rs (m : Int)) = false := by rw [har]; exact hl'.out
        exact ⟨ret_bool (by symm; unfold okFact; dsimp only; rw [e1, Bool.and_false, Bool.false_and]), hbx.out.trans hS⟩
      | true =>
        have hl0 : (vs.length : Int) = rs[m].2.1 := of_decide_eq_true hl
        have hl1 : ((vs.length : Int) == rs[m].2.1) = true := by simpa using hl0
        have hl2 : ((vs.length : Int) != rs[m].2.1) = false := by simp [bne, hl1]
        have hl' := Aside0.mk hl
        clear hl hl0
        go_enter Tryz.func50, Tryz.ntmps50
        go_wp2
        refine Reg.region [(0,.L),(1,.C),(2,.L),(3,.L),(4,.L),(5,.L),(6,.L),(7,.L),(8,.L),(9,.C),(10,.L),(11,.L),(12,.L),(13,.L),(14,.L),(15,.L),(16,.L),(17,.L),(18,.L),(19,.L),(20,.L),(21,.L),(22,.L),(23,.L)] [] (by kernel_rfl) (by kernel_rfl) ?_
        repeat first | refine sP ?_ | refine sS ?_ | refine sA ?_ | refine sL ?_ | refine sQ ?_ | refine sO ?_
        refine callC (.bool true) Tryz.func49 (fun w' hS => ?_) ?_
        focus exact (iAreValidRelations_calls w' (some ad) c rs (h0.on (hbx.out.trans hS))).mono fun e w'' h => ⟨by rw [h.1, hr'.out], h.2⟩
        repeat first | refine sP ?_ | refine sS ?_ | refine sA ?_ | refine sL ?_ | refine sQ ?_ | refine sO ?_
        refine callC (.bool true) Tryz.func91 (fun w' hS => ?_) ?_
        focus exact (within_calls w' _ _ _).mono fun e w'' h => ⟨by rw [h.1, hi'.out], h.2⟩
        repeat first | refine sP ?_ | refine sS ?_ | refine sA ?_ | refine sL ?_ | refine sQ ?_ | refine sO ?_
        refine Reg.nil fun w2 hS => ?_
        clear hx1'
        have hL2 := Loc.on hS (loc1 w #[.int .i64 m, .slice B vs.length d] 60)
        have hc0 := blk_cell hL2.1
        have hB2 := Aside0.mk (hbx.out.trans hS)
        cases hv : vs.any (fun v => !okVal v) with
        | true =>
          have hv' := Aside0.mk hv
          clear hv
          go_wp2_with (go_at_call 123; refine (ContainsFuncV_calls w2 B d vs (h1.on hB2.out)).mono ?_; rintro e w3 ⟨rfl, hb3⟩; rw [hv'.out])
          go_ret
          exact ⟨ret_bool (by have : vs.all okVal = false := by have := hv'.out; rw [List.any_eq_not_all_not] at this; simpa using this
                              simp only [okFact, this, Bool.and_false]), hB2.out.trans hb3⟩
        | false =>
          have hv' := Aside0.mk hv
          clear hv
          go_wp2_with (go_at_call 123; refine (ContainsFuncV_calls w2 B d vs (h1.on hB2.out)).mono ?_; rintro e w3 ⟨rfl, hb3⟩; rw [hv'.out])
          go_ret
          exact ⟨ret_bool (by have : vs.all okVal = true := by have := hv'.out; rw [List.any_eq_not_all_not] at this; simpa using this
                              have hl3 := beq_iff_eq.1 hl1; simp [okFact, this, hr'.out, har, hm, hl3]), hB2.out.trans hb3⟩
theorem isNaN_calls (w : World) (v : Int) : Calls Tryz.prog 171 #[.int .i64 v] w fun e w' => e = .returned (.bool false) ∧ On w w' := by
  go_enter Tryz.func171, Tryz.ntmps171
  go_wp2
  go_ret
  exact ⟨by simp, On.refl _⟩
theorem cmpCompare_calls (w : World) (a b : Int) : Calls Tryz.prog 120 #[.int .i64 a, .int .i64 b] w fun e w' => e = .returned (.int .i64 (cmpI a b)) ∧ On w w' := by
  by_cases h1 : a < b
  · have h1b : decide (a < b) = true := decide_eq_true h1
    go_enter Tryz.func120, Tryz.ntmps120
    go_wp2_with (first | (go_at_call 171; refine (isNaN_calls w _).mono ?_; rintro e w1 ⟨rfl, hb1⟩) | (go_at_call 171; refine (isNaN_calls w1 _).mono ?_; rintro e w2 ⟨rfl, hb2⟩))
    go_ret
    exact ⟨ret_int (by unfold cmpI; rw [if_pos (of_decide_eq_true h1b)]), hb1.trans hb2⟩
  · have h1b : decide (a < b) = false := decide_eq_false h1
    by_cases h2 : b < a
    · have h2b : decide (b < a) = true := decide_eq_true h2
      go_enter Tryz.func120, Tryz.ntmps120
      go_wp2_with (first | (go_at_call 171; refine (isNaN_calls w _).mono ?_; rintro e w1 ⟨rfl, hb1⟩) | (go_at_call 171; refine (isNaN_calls w1 _).mono ?_; rintro e w2 ⟨rfl, hb2⟩))
      go_ret
      exact ⟨ret_int (by unfold cmpI; rw [if_neg (of_decide_eq_false h1b), if_pos (of_decide_eq_true h2b)]), hb1.trans hb2⟩
    · have h2b : decide (b < a) = false := decide_eq_false h2
      go_enter Tryz.func120, Tryz.ntmps120
      go_wp2_with (first | (go_at_call 171; refine (isNaN_calls w _).mono ?_; rintro e w1 ⟨rfl, hb1⟩) | (go_at_call 171; refine (isNaN_calls w1 _).mono ?_; rintro e w2 ⟨rfl, hb2⟩))
      go_ret
      exact ⟨ret_int (by unfold cmpI; rw [if_neg (of_decide_eq_false h1b), if_neg (of_decide_eq_false h2b)]), hb1.trans hb2⟩
theorem cmpI_bd (a b : Int) : -1 ≤ cmpI a b ∧ cmpI a b ≤ 1 := by unfold cmpI; split <;> (try split) <;> omega
theorem ints_stepI (a b : List Int) (k : Nat) (h1 : k < a.length) (h2 : k < b.length) : ints (a.drop k) (b.drop k) = if cmpI a[k] b[k] = 0 then ints (a.drop (k + 1)) (b.drop (k + 1)) else cmpI a[k] b[k] := by
  rw [ints_step a b k h1 h2]; unfold cmpI; split
  · simp
  · split <;> simp
theorem slicesCompare_calls (w : World) (A B : Option Addr) (c d : Nat) (a b : List Int) (ha : Ints w A c a) (hb : Ints w B d b) : Calls Tryz.prog 121 #[.slice A a.length c, .slice B b.length d] w fun e w' => e = .returned (.int .i64 (ints a b)) ∧ On w w' := by
  have hma := ha.max
  have hmb := hb.max
  go_enter Tryz.func121, Tryz.ntmps121
  go_wp2
  go_loopw [11] (fun v wr => ∃ k : Nat, k ≤ a.length ∧ k ≤ b.length ∧ v = .int .i64 k ∧ Hid (ints (a.drop k) (b.drop k) = ints a b) ∧ On w wr) (fun v _ => a.length - (intOf v).toNat)
  case atStart => exact ⟨0, Nat.zero_le _, Nat.zero_le _, rfl, rfl, On.refl _⟩
  case round =>
    obtain ⟨k, hk1, hk2, rfl, hp, hB⟩ := hrel
    by_cases h1 : k < a.length
    · obtain ⟨ad, rfl, hx⟩ := (ha.on hB).at k h1
      by_cases h2 : k < b.length
      · obtain ⟨bd, rfl, hy⟩ := (hb.on hB).at k h2
        have h2n : decide (b.length ≤ k) = false := decide_eq_false (by omega)
        have hst := Aside0.mk ((ints_stepI a b k h1 h2).symm.trans hp.out)
        clear hp
        by_cases h3 : cmpI a[k] b[k] = 0
        · have h3' := Aside0.mk h3
          have h3b : (cmpI a[k] b[k] != 0) = false := by simp [h3]
          clear h3
          go_wp2_with (go_at_call 120; refine (cmpCompare_calls _ _ _).mono ?_; rintro e w3 ⟨rfl, hb3⟩)
          go_roundw
          case rel => exact ⟨k + 1, by omega, by omega, by go_num, (by have := hst.out; rwa [if_pos h3'.out] at this : _ = _), hB.trans hb3⟩
          case measure => simp [intOf]; omega
        · have h3' := Aside0.mk h3
          have h3b : (cmpI a[k] b[k] != 0) = true := by simp [h3]
          clear h3
          go_wp2_with (go_at_call 120; refine (cmpCompare_calls _ _ _).mono ?_; rintro e w3 ⟨rfl, hb3⟩)
          go_ret
          exact ⟨ret_int (by have := hst.out; rwa [if_neg h3'.out] at this), hB.trans hb3⟩
      · have hb0 : b.drop k = [] := List.drop_of_length_le (by omega)
        have h2n : decide (b.length ≤ k) = true := decide_eq_true (by omega)
        have hp' := Aside0.mk hp.out
        clear hp
        go_wp2
        go_ret
        exact ⟨ret_int (by rw [← hp'.out, hb0, List.drop_eq_getElem_cons h1]; rfl), hB⟩
    · have ha0 : a.drop k = [] := List.drop_of_length_le (by omega)
      have hp' := Aside0.mk hp.out
      clear hp
      by_cases h2 : k < b.length
      · have h4 : a.length < b.length := by omega
        go_wp2
        go_ret
        exact ⟨ret_int (by rw [← hp'.out, ha0, List.drop_eq_getElem_cons h2]; rfl), hB⟩
      · have hb0 : b.drop k = [] := List.drop_of_length_le (by omega)
        have h4 : ¬ a.length < b.length := by omega
        go_wp2
        go_ret
        exact ⟨ret_int (by rw [← hp'.out, ha0, hb0]; rfl), hB⟩
/-- The first that is not 0. -/
def orFrom : List Int → Int
  | [] => 0
  | x :: l => if x = 0 then orFrom l else x
theorem orFrom_step (l : List Int) (k : Nat) (h : k < l.length) : orFrom (l.drop k) = if l[k] = 0 then orFrom (l.drop (k + 1)) else l[k] := by
  rw [List.drop_eq_getElem_cons h]; rfl
theorem cmpOr_calls (w : World) (A c) (l : List Int) (h : Ints w A c l) : Calls Tryz.prog 119 #[.slice A l.length c] w fun e w' => e = .returned (.int .i64 (orFrom l)) ∧ On w w' := by
  have hmax := h.max
  go_enter Tryz.func119, Tryz.ntmps119
  go_wp2
  go_loop [8] (fun v => ∃ k : Nat, k ≤ l.length ∧ v = .int .i64 k ∧ Hid (orFrom (l.drop k) = orFrom l)) (fun v => l.length - (intOf v).toNat)
  case atStart => exact ⟨0, Nat.zero_le _, rfl, rfl⟩
  case round =>
    obtain ⟨k, hk, rfl, hp⟩ := hrel
    by_cases hlt : k < l.length
    · obtain ⟨ad, rfl, hx⟩ := h.at k hlt
      have hst := Aside0.mk ((orFrom_step l k hlt).symm.trans hp.out)
      clear hp
      by_cases h3 : l[k] = 0
      · have h3' := Aside0.mk h3
        have h3b : (l[k] != 0) = false := by simp [h3]
        clear h3
        go_wp2
        go_round
        case rel => exact ⟨k + 1, by omega, by go_num, (by have := hst.out; rwa [if_pos h3'.out] at this : _ = _)⟩
        case measure => simp [intOf]; omega
      · have h3' := Aside0.mk h3
        have h3b : (l[k] != 0) = true := by simp [h3]
        clear h3
        go_wp2
        go_ret
        exact ⟨ret_int (by have := hst.out; rwa [if_neg h3'.out] at this), On.refl _⟩
    · go_wp2
      go_ret
      exact ⟨ret_int (by rw [← hp.out, List.drop_of_length_le (by omega)]; rfl), On.refl _⟩
theorem ints2 (w : World) (a b : Int) : Ints (w.alloc (.cells #[.int .i64 a, .int .i64 b] 3)) (some ⟨w.heap.size, 0, none⟩) 2 [a, b] ↔ InR [a, b] := by
  refine ⟨fun h => h.2.2, fun h => ⟨Nat.le_refl _, ⟨rfl, by simp, fun _ => ⟨_, rfl, fun j p hj => ?_⟩⟩, h⟩⟩
  refine ⟨[.int .i64 p], rfl, rfl, fun i u hu => ?_⟩
  have hc := blk_cell (loc_new w #[.int .i64 a, .int .i64 b] 3)
  obtain ⟨rfl, rfl⟩ : i = 0 ∧ u = .int .i64 p := by
    cases i with
    | zero => simp at hu; exact ⟨rfl, hu.symm⟩
    | succ i => simp at hu
  rw [add_plain, show j * kInts.sz + 0 = j from by show j * 1 + 0 = j; omega, hc]
  match j, hj with
  | 0, hj => simp at hj; subst hj; rfl
  | 1, hj => simp at hj; subst hj; rfl
  | j + 2, hj => simp at hj
theorem ints_bd (a b : List Int) : -1 ≤ ints a b ∧ ints a b ≤ 1 := by
  induction a generalizing b with
  | nil => cases b <;> simp [ints]
  | cons x a ih =>
    cases b with
    | nil => simp [ints]
    | cons y b =>
      unfold ints
      split
      · omega
      · split
        · omega
        · exact ih b
theorem iCompareFacts_calls (w : World) (A0 c0 A1 c1) (f g : Fct) (h0 : Ints w A0 c0 f.2) (h1 : Ints w A1 c1 g.2) : Calls Tryz.prog 48 #[.agg #[.int .i64 f.1, .slice A0 f.2.length c0], .agg #[.int .i64 g.1, .slice A1 g.2.length c1]] w fun e w' => e = .returned (.int .i64 (cmpF f g)) ∧ On w w' := by
  have hb0 := Aside0.mk (On.alloc (On.alloc (On.refl w) (.cells #[.int .i64 f.1, .slice A0 f.2.length c0] 60)) (.cells #[.int .i64 g.1, .slice A1 g.2.length c1] 60))
  go_enter Tryz.func48, Tryz.ntmps48
  go_wp2
  refine Reg.region [(0,.L),(1,.L),(2,.L),(3,.L),(4,.C),(5,.L),(6,.L),(7,.L),(8,.L),(9,.C)] [10,11,12] (by kernel_rfl) (by kernel_rfl) ?_
  repeat first | refine sP ?_ | refine sS ?_ | refine sA ?_ | refine sL ?_ | refine sQ ?_ | refine sO ?_
  refine callC (.int .i64 (cmpI f.1 g.1)) Tryz.func120 (fun w' hS => ?_) ?_
  focus exact cmpCompare_calls w' _ _
  repeat first | refine sP ?_ | refine sS ?_ | refine sA ?_ | refine sL ?_ | refine sQ ?_ | refine sO ?_
  refine callC (.int .i64 (ints f.2 g.2)) Tryz.func121 (fun w' hS => ?_) ?_
  focus exact slicesCompare_calls w' _ _ _ _ f.2 g.2 (h0.on (hb0.out.trans hS)) (h1.on (hb0.out.trans hS))
  repeat first | refine sP ?_ | refine sS ?_ | refine sA ?_ | refine sL ?_ | refine sQ ?_ | refine sO ?_
  refine Reg.tail_ fun w2 hS => ?_
  have hc := cmpI_bd f.1 g.1
  have hi := ints_bd f.2 g.2
  have hr := Aside0.mk ((ints2 w2 (cmpI f.1 g.1) (ints f.2 g.2)).2 (fun x hx => by simp at hx; rcases hx with rfl | rfl <;> omega))
  clear hc hi
  go_wp2_with (go_at_call 119; refine (cmpOr_calls _ _ _ _ hr.out).mono ?_; rintro e w3 ⟨rfl, hb3⟩)
  go_ret
  refine ⟨ret_int ?_, (hb0.out.trans hS).trans ((On.alloc (On.refl _) _).trans hb3)⟩
  rw [cmpF_or]
  simp only [orFrom]
  by_cases h3 : cmpI f.1 g.1 = 0
  · simp only [h3, if_pos, ne_eq, not_true, if_false]
    by_cases h4 : ints f.2 g.2 = 0
    · rw [if_pos h4, h4]
    · rw [if_neg h4]
  · simp [h3]
end Go.Proofs.YtgemaohdlibboaaGreatDoor.H
/- Walks: the program's own search for facts. No condition. -/
namespace Go.Proofs.YtgemaohdlibboaaGreatDoor.H
open Go Go.RowKit Go.Proofs.YtgemaohdlibboaaGreatDoorW.PrintWords Go.Proofs.YtgemaohdlibboaaGreatDoorW.PrintLast
open Go.Proofs.YtgemaohdlibboaaGreatDoor.Reg (On on_draw)
set_option maxHeartbeats 1000000
set_option maxRecDepth 100000
set_option linter.unusedVariables false
set_option linter.unusedSimpArgs false

/-- A call of a closure. -/
theorem goesC {ops : Array Oper} {rest : List Oper} {o : Oper} {a : Act} {Q : Exit → Act → World → Prop} {w : World} (N : Tmp) {x : Operand} {f : FuncId} {fn : Func} {xs : Array Operand} {ts : Array TypeId} {caps args : Array Value} (hf : Tryz.prog.funcs[f]? = some fn) (hname : (fn.name == "runtime.NumGoroutine") = false) (hb : fn.body.isSome = true)
    (h : Calls Tryz.prog f args w fun e w' => ∃ v, e = .returned v ∧ wpList Tryz.prog ops Q rest (a.put (some N) v) w')
    (hop : o.op = .call { callee := .value x, args := xs, argTypes := ts } := by rfl) (hx : a.eval x = .func (.func f) #[] caps := by rfl) (hargs : xs.map a.eval ++ caps = args := by (try simp only [List.map_toArray, List.map_cons, List.map_nil]); rfl)
    (hd : o.dst = some N := by rfl) (hg : o.guard = none := by rfl) : wpList Tryz.prog ops Q (o :: rest) a w := by
  refine wpList_plain hg fun K hK => ?_
  have he := enters_ hf hname hb args w
  have hrun : (execOp a.eval o).run Tryz.prog w = .ok (.enter f args) w := by
    unfold execOp
    simp [hop, resolve, Deferred.ofValue, invoke, hx, hargs, he]
  unfold Oper.wp
  rw [hrun, Oper.upon_enter]
  refine h.mono fun e w'' hh => ?_
  obtain ⟨v, rfl, hk⟩ := hh
  rw [← hd] at hk
  exact hK _ _ hk
end Go.Proofs.YtgemaohdlibboaaGreatDoor.H
/- Walks: texts cut, relations looked up, on both sides. No condition. -/
namespace Go.Proofs.YtgemaohdlibboaaGreatDoor.H
open Go Go.RowKit Go.Proofs.YtgemaohdlibboaaGreatDoorW.PrintWords Go.Proofs.YtgemaohdlibboaaGreatDoorW.PrintLast
open Go.Proofs.YtgemaohdlibboaaGreatDoor.Reg (On on_draw)
set_option maxHeartbeats 4000000
set_option maxRecDepth 100000
set_option linter.unusedVariables false
set_option linter.unusedSimpArgs false

theorem encS_map (ss : List (List UInt8)) : (ss.map strB).map Value.string = ss.flatMap encS := by
  induction ss with
  | nil => rfl
  | cons x ss ih => simp at ih ⊢; exact ih
theorem Split_calls (w : World) (s : List UInt8) (c : UInt8) (hl : s.length ≤ 2000000) : Calls Tryz.prog 56 #[.string (strB s), .string (strB [c])] w (Got fun v w' => OSt w' w.heap.size v (cutS c s) ∧ On w w') := by
  have hsz : (strB s).size < 4294967281 := by rw [strB_size]; omega
  have h1 : 1 ≤ (strB [c]).size := by rw [strB_size]; simp
  have hle := Lib.countB_le (strB [c]) h1 (strB s).size (strB s) (Nat.le_refl _)
  have hlen := Lib.splitB_all (strB [c]) h1 0 _ (strB s) rfl
  have hI : ∀ (x : ByteArray) (cs : Array Value), x.size ≤ (strB s).size → Calls Tryz.prog 180 #[.string x, .string (strB [c])] (w.alloc (.cells cs 9 (0, 0))) fun e w' => e = .returned (.int .i64 (Lib.indexB x (strB [c]))) ∧ w' = w.alloc (.cells cs 9 (0, 0)) := fun x cs _ => by
    have h := Tryz.strings_Index_one x c (w.alloc (.cells cs 9 (0, 0)))
    have e : Lib.indexB x (strB [c]) = Lib.indexByte x.data.toList c := by
      show Lib.index x.data.toList (strB [c]).data.toList = _
      rw [strB_data, Lib.index_one]
    rw [e]
    exact h
  have hC : Calls Tryz.prog 179 #[.string (strB s), .string (strB [c])] w fun e w' => e = .returned (.int .i64 (Lib.countB (strB s) (strB [c]))) ∧ w' = w := by
    refine (Tryz.strings_Count_one (strB s) c w).mono fun e w' ⟨he, hw⟩ => ⟨?_, hw⟩
    rw [he]
    show _ = Ending.returned (Value.int .i64 ((Lib.count (strB s).data.toList (strB [c]).data.toList : Nat) : Int))
    rw [strB_data [c], Lib.count_one]
    rfl
  have key := Any.strings_genSplit_core Tryz.lays221 (by kernel_rfl) (strB s) (strB [c]) 0 (-1) (Lib.countB (strB s) (strB [c]) + 1) w hsz h1 (Nat.zero_le _) hI hC (by decide) (by decide) (by rw [if_pos (by decide)]; omega)
  rw [Nat.add_sub_cancel, hlen] at key
  have e2 : Lib.cellsOf (Lib.splitB (strB [c]) 0 (Lib.countB (strB s) (strB [c])) (strB s)) (Lib.countB (strB s) (strB [c]) + 1) = ((Lib.splitB (strB [c]) 0 (Lib.countB (strB s) (strB [c])) (strB s)).map Value.string).toArray := by rw [← hlen]; exact Lib.cellsOf_full _
  rw [e2, splitB_cut, encS_map] at key
  have hn : Lib.countB (strB s) (strB [c]) + 1 = (cutS c s).length := by rw [← hlen, splitB_cut, List.length_map]
  rw [hn] at key
  have key2 : Calls Tryz.prog 130 #[.string (strB s), .string (strB [c]), .int .i64 0, .int .i64 (-1)] w fun e w' => e = .returned (.slice (some ⟨w.heap.size, 0, none⟩) (cutS c s).length (cutS c s).length) ∧ w' = w.alloc (.cells ((cutS c s).flatMap encS).toArray 9 (0, 0)) := key
  have hO := World.ownsRow_lit (base := w.heap.size) (e := 9) (size := 1) w ((cutS c s).flatMap encS).toArray (cutS c s).length (Nat.le_refl _) (by simp [maxLen]; rw [← hn]; rw [strB_size] at hle; omega) (by rw [List.size_toArray, flat_len (enc := encS) (sz := 1) (fun _ => rfl)])
  have hO' := Aside0.mk hO
  clear hO key hI hC e2 hlen hle h1 hsz hn
  go_enter Tryz.func56, Tryz.ntmps56
  go_wp2_with (go_at_call 130; refine key2.mono ?_; rintro e w1 ⟨rfl, rfl⟩)
  go_ret
  exact ⟨_, rfl, hO'.out, On.alloc (On.refl _) _⟩
theorem idx_beq (rs : List Rel) (nm : List UInt8) (k : Nat) (h : k < rs.length) : (rs[k].1.toList == (strB nm).toList) = decide (rs[k].1.data.toList = nm) := by
  rw [ByteArray.toList_eq, ByteArray.toList_eq, strB_data, Bool.eq_iff_iff]; simp
abbrev nmP (nm : List UInt8) : Rel → Bool := fun r => decide (r.1.data.toList = nm)
theorem sRelationIndex_calls (w : World) (A : Option Addr) (c : Nat) (rs : List Rel) (h : Rels w A c rs) (nm : List UInt8) : Calls Tryz.prog 117 #[.slice A rs.length c, .string (strB nm)] w fun e w' => e = .returned (.int .i64 (idxFrom (nmP nm) rs 0)) ∧ On w w' := by
  have hmax := h.max
  go_enter Tryz.func117, Tryz.ntmps117
  go_wp2
  go_loopw [5] (fun v wr => ∃ k : Nat, k ≤ rs.length ∧ v = .int .i64 k ∧ Hid (idxFrom (nmP nm) (rs.drop k) k = idxFrom (nmP nm) rs 0) ∧ On w wr) (fun v _ => rs.length - (intOf v).toNat)
  case atStart => exact ⟨0, Nat.zero_le _, rfl, rfl, On.refl _⟩
  case round =>
    obtain ⟨k, hk, rfl, hp, hB⟩ := hrel
    by_cases hlt : k < rs.length
    · obtain ⟨ad, rfl, hx0, hx1, hx2⟩ := (h.on hB).at k hlt
      have hst := Aside0.mk ((idxFrom_step (nmP nm) rs k hlt).symm.trans hp.out)
      have hbq := idx_beq rs nm k hlt
      clear hp hx1 hx2
      cases hv : decide (rs[k].1.data.toList = nm) with
      | true =>
        rw [hv] at hbq
        have hv' := Aside0.mk (show nmP nm rs[k] = true from hv)
        clear hv
        go_wp2
        go_ret
        exact ⟨ret_int (by have := hst.out; rw [hv'.out, if_pos rfl] at this; exact this), hB⟩
      | false =>
        rw [hv] at hbq
        have hv' := Aside0.mk (show nmP nm rs[k] = false from hv)
        clear hv
        go_wp2
        exact ⟨⟨k + 1, by omega, by go_num, (by have := hst.out; rwa [hv'.out, if_neg (by simp)] at this : _ = _), hB⟩, by simp [intOf]; omega⟩
    · go_wp2
      go_ret
      exact ⟨ret_int (by rw [← hp.out, List.drop_of_length_le (by omega)]; rfl), hB⟩
theorem RelIdx1_calls (w : World) (r : Rel) (nm : List UInt8) (b : Nat) (hb0 : w.heap[b]? = some (.cells #[.string (strB nm)] 9 (0, 0))) : Calls Tryz.prog 168 #[.agg #[.string r.1, .int .i64 r.2.1, .bool r.2.2], .pointer (some ⟨b, 0, none⟩)] w fun e w' => e = .returned (.bool (nmP nm r)) ∧ On w w' := by
  have hb := Aside0.mk (On.alloc (On.refl w) (.cells #[.string r.1, .int .i64 r.2.1, .bool r.2.2] 95))
  have hc := blk_cell (blk_below hb0 hb.out)
  have hlt := Aside0.mk (blk_lt hb0)
  have hbq : (r.1.toList == (strB nm).toList) = nmP nm r := by
    rw [ByteArray.toList_eq, ByteArray.toList_eq, strB_data, Bool.eq_iff_iff]; simp [nmP]
  have hbq' := Aside0.mk hbq
  clear hb0 hbq
  go_enter Tryz.func168, Tryz.ntmps168
  go_wp2
  go_ret
  exact ⟨ret_bool hbq'.out, hb.out⟩
theorem IndexFuncR_calls (w : World) (A c) (fs : List Rel) (h : Rels w A c fs) {fn : FuncId} {F : Func} (caps : Array Value) (p : Rel → Bool) (hf : Tryz.prog.funcs[fn]? = some F) (hname : (F.name == "runtime.NumGoroutine") = false) (hbd : F.body.isSome = true)
    (hcl : ∀ (w' : World), On w w' → ∀ (r : Rel), Calls Tryz.prog fn (#[.agg #[.string r.1, .int .i64 r.2.1, .bool r.2.2]] ++ caps) w' fun e w'' => e = .returned (.bool (p r)) ∧ On w' w'') :
    Calls Tryz.prog 167 #[.slice A fs.length c, .func (.func fn) #[] caps] w fun e w' => e = .returned (.int .i64 (idxFrom p fs 0)) ∧ On w w' := by
  have hmax := h.max
  go_enter Tryz.func167, Tryz.ntmps167
  go_wp2
  go_loopw [8] (fun v wr => ∃ k : Nat, k ≤ fs.length ∧ v = .int .i64 k ∧ Hid (idxFrom p (fs.drop k) k = idxFrom p fs 0) ∧ On w wr) (fun v _ => fs.length - (intOf v).toNat)
  case atStart => exact ⟨0, Nat.zero_le _, rfl, rfl, On.refl _⟩
  case round =>
    obtain ⟨k, hk, rfl, hp, hB⟩ := hrel
    by_cases hlt : k < fs.length
    · obtain ⟨ad, rfl, hx0, hx1, hx2⟩ := (h.on hB).at k hlt
      have hst := Aside0.mk ((idxFrom_step p fs k hlt).symm.trans hp.out)
      clear hp
      have hc2 := Aside0.mk (hcl wr hB fs[k])
      cases hv : p fs[k] with
      | true =>
        rw [hv] at hc2
        have hv' := Aside0.mk hv
        clear hv
        go_wp2_with (refine gate 16 ?_)
        refine ⟨goesC 16 hf hname hbd (hc2.out.mono fun e w2 h2 => ⟨_, h2.1, ?_⟩)⟩
        have hb2 := Aside0.mk h2.2
        clear h2
        go_wp2
        go_ret
        exact ⟨ret_int (by have := hst.out; rw [hv'.out, if_pos rfl] at this; exact this), hB.trans hb2.out⟩
      | false =>
        rw [hv] at hc2
        have hv' := Aside0.mk hv
        clear hv
        go_wp2_with (refine gate 16 ?_)
        refine ⟨goesC 16 hf hname hbd (hc2.out.mono fun e w2 h2 => ⟨_, h2.1, ?_⟩)⟩
        have hb2 := Aside0.mk h2.2
        clear h2
        go_wp2
        exact ⟨⟨k + 1, by omega, by go_num, (by have := hst.out; rwa [hv'.out, if_neg (by simp)] at this : _ = _), hB.trans hb2.out⟩, by simp [intOf]; omega⟩
    · go_wp2
      go_ret
      exact ⟨ret_int (by rw [← hp.out, List.drop_of_length_le (by omega)]; rfl), hB⟩
theorem iRelationIndex_calls (w : World) (A : Option Addr) (c : Nat) (rs : List Rel) (h : Rels w A c rs) (nm : List UInt8) : Calls Tryz.prog 111 #[.slice A rs.length c, .string (strB nm)] w fun e w' => e = .returned (.int .i64 (idxFrom (nmP nm) rs 0)) ∧ On w w' := by
  have hb := Aside0.mk (On.alloc (On.refl w) (.cells #[.string (strB nm)] 9))
  have hL := Aside0.mk (loc_new w #[.string (strB nm)] 9)
  go_enter Tryz.func111, Tryz.ntmps111
  go_wp2_with (go_at_call 167; refine (IndexFuncR_calls _ A c rs (h.on hb.out) (fn := 168) #[.pointer (some ⟨w.heap.size, 0, none⟩)] (nmP nm) Tryz.func168 (by kernel_rfl) rfl (fun w' hw r => RelIdx1_calls w' r nm w.heap.size (blk_below hL.out hw))).mono ?_; rintro e w3 ⟨rfl, hb3⟩)
  go_ret
  exact ⟨rfl, hb.out.trans hb3⟩
end Go.Proofs.YtgemaohdlibboaaGreatDoor.H
/- Walks: texts cut at a sign, on both sides. No condition. -/
namespace Go.Proofs.YtgemaohdlibboaaGreatDoor.H
open Go Go.RowKit Go.Proofs.YtgemaohdlibboaaGreatDoorW.PrintWords Go.Proofs.YtgemaohdlibboaaGreatDoorW.PrintLast
open Go.Proofs.YtgemaohdlibboaaGreatDoor.Reg (On on_draw)
set_option maxHeartbeats 4000000
set_option maxRecDepth 100000
set_option linter.unusedVariables false
set_option linter.unusedSimpArgs false

theorem TrimSuffix_calls (w : World) (s : List UInt8) (hl : s.length ≤ 2000000) : Calls Tryz.prog 112 #[.string (strB s), .string (strB [41])] w fun e w' => e = .returned (.string (strB (Lib.trimSuffix s [41]))) ∧ On w w' := by
  refine (Tryz.strings_TrimSuffix (strB s) (strB [41]) w (by rw [strB_size]; omega)).mono fun e w' ⟨he, hw⟩ => ?_
  subst hw
  rw [he, strB_data, strB_data]
  exact ⟨rfl, On.refl _⟩
theorem cutP_lib (s : List UInt8) : Lib.trimPrefix s [43] = (cutP s).1 ∧ Lib.hasPrefix s [43] = (cutP s).2 := by
  unfold Lib.trimPrefix Lib.hasPrefix
  cases s with
  | nil => exact ⟨rfl, rfl⟩
  | cons b r =>
    have hh : cutP (b :: r) = if b = 43 then (r, true) else (b :: r, false) := rfl
    rw [hh]
    by_cases h : b = 43
    · subst h; simp
    · rw [if_neg h]
      have : ([43] : List UInt8).isPrefixOf (b :: r) = false := by simp [List.isPrefixOf]; exact fun e => h e.symm
      rw [this]; simp
theorem CutPrefix_calls (w : World) (s : List UInt8) : Calls Tryz.prog 106 #[.string (strB s), .string (strB [43])] w fun e w' => e = .returned (.tuple #[.string (strB (cutP s).1), .bool (cutP s).2]) ∧ On w w' := by
  refine (Tryz.strings_CutPrefix (strB s) (strB [43]) w).mono fun e w' ⟨he, hw⟩ => ?_
  subst hw
  rw [he, strB_data, strB_data, (cutP_lib s).1, (cutP_lib s).2]
  exact ⟨rfl, On.refl _⟩
theorem sliteCut_calls (w : World) (s : List UInt8) (c : UInt8) (hl : s.length ≤ 2000000) : Calls Tryz.prog 129 #[.string (strB s), .string (strB [c])] w fun e w' => e = .returned (.tuple #[.string (strB (Lib.cut s [c]).1), .string (strB (Lib.cut s [c]).2.1), .bool (Lib.cut s [c]).2.2]) ∧ On w w' := by
  have hix := Aside0.mk (Tryz.stringslite_Index_one (strB s) c)
  rcases cut_cases c s with h | ⟨a, b, h, h2⟩
  · have hcut := Aside0.mk (cut_none h)
    have hi := Aside0.mk (show Lib.indexByte (strB s).data.toList c = -1 by rw [strB_data, ← Lib.index_one, index_none h])
    clear h
    go_enter Tryz.func129, Tryz.ntmps129
    go_wp2_with (go_at_call 177; refine (hix.out _).mono ?_; rintro e w1 ⟨rfl, rfl⟩; rw [hi.out])
    go_ret3
    exact ⟨by rw [hcut.out]; rfl, On.refl _⟩
  · have hcut := Aside0.mk (show Lib.cut s [c] = (a, b, true) by rw [h]; exact cut_app b h2)
    have hi := Aside0.mk (show Lib.indexByte (strB s).data.toList c = (a.length : Int) by rw [strB_data, ← Lib.index_one, h, index_app b h2])
    have hsl : s.length = a.length + 1 + b.length := by rw [h]; simp; omega
    have e1 : (strB s).extract 0 a.length = strB a := by rw [strB_extract, h]; simp
    have e2 : (strB s).extract (a.length + 1) (strB s).size = strB b := by rw [strB_rest, h]; simp
    have hss : (strB s).size = s.length := strB_size s
    have hs1 : (strB [c]).size = 1 := by rw [strB_size]; rfl
    have b1 : (a.length : Int) ≤ ((strB s).size : Int) := by rw [hss]; omega
    have b2 : (a.length : Int) + 1 ≤ ((strB s).size : Int) := by rw [hss]; omega
    have hs := Aside0.mk (And.intro hsl hss)
    have bn1 : a.length ≤ (strB s).size := by rw [hss]; omega
    have bn2 : a.length + 1 ≤ (strB s).size := by rw [hss]; omega
    have hwr : IntKind.i64.wrap ((a.length : Int) + 1) = ((a.length + 1 : Nat) : Int) := by rw [IntWalk.i64_in _ (by omega)]; omega
    clear h h2 hsl hss
    go_enter Tryz.func129, Tryz.ntmps129
    go_wp2_with (go_at_call 177; refine (hix.out _).mono ?_; rintro e w1 ⟨rfl, rfl⟩; rw [hi.out])
    refine Reg.region [(0,.P),(1,.P),(2,.P),(3,.P),(4,.P),(5,.P),(6,.P),(7,.P),(8,.P)] [9,10,11] (by kernel_rfl) (by kernel_rfl) ?_
    repeat first | refine sP ?_ | refine sS ?_ | refine sA ?_ | refine sL ?_ | refine sQ ?_ | refine sO ?_
    refine Reg.tail_ fun w2 hS => ?_
    go_wp2
    go_ret3
    exact ⟨by rw [hcut.out]; rfl, hS⟩
theorem Cut_calls (w : World) (s : List UInt8) (c : UInt8) (hl : s.length ≤ 2000000) : Calls Tryz.prog 55 #[.string (strB s), .string (strB [c])] w fun e w' => e = .returned (.tuple #[.string (strB (Lib.cut s [c]).1), .string (strB (Lib.cut s [c]).2.1), .bool (Lib.cut s [c]).2.2]) ∧ On w w' := by
  go_enter Tryz.func55, Tryz.ntmps55
  go_wp2_with (go_at_call 129; refine (sliteCut_calls _ s c hl).mono ?_; rintro e w1 ⟨rfl, hb1⟩)
  go_ret3
  exact ⟨rfl, hb1⟩
theorem cutS_hit {c : UInt8} {s : List UInt8} {i : Nat} (h : i < s.length) (hc : s[i] = c) : cutS c (s.drop i) = [] :: cutS c (s.drop (i + 1)) := by
  rw [List.drop_eq_getElem_cons h, cutS, if_pos hc]
theorem cutS_miss {c : UInt8} {s : List UInt8} {i : Nat} (h : i < s.length) (hc : s[i] ≠ c) : cutS c (s.drop i) = preP [s[i]] (cutS c (s.drop (i + 1))) := by
  rw [List.drop_eq_getElem_cons h, cutS, if_neg hc]
theorem take_one {s : List UInt8} {fr i : Nat} (h : i < s.length) (hf : fr ≤ i) : (s.drop fr).take (i + 1 - fr) = (s.drop fr).take (i - fr) ++ [s[i]] := by
  rw [show i + 1 - fr = (i - fr) + 1 by omega, List.take_succ_eq_append_getElem (by simp; omega), List.getElem_drop]
  simp only [show fr + (i - fr) = i by omega]
theorem strB_get (s : List UInt8) (i : Nat) (h : i < s.length) (k : i < (strB s).size) : (strB s)[i]'k = s[i]'h := by
  simp [strB, ByteArray.getElem_eq_getElem_data]
theorem strB_at (s : List UInt8) (i : Nat) (h : i < s.length) (b : UInt8) (hb : s[i] = b) : ∀ k : i < (strB s).size, (((strB s)[i]'k).toNat : Int) = (b.toNat : Int) := fun k => by
  rw [strB_get s i h k, hb]
theorem l3Cut_calls (w : World) (s : List UInt8) (c : UInt8) (hl : s.length ≤ 2000000) : Calls Tryz.prog 54 #[.string (strB s), .int .u8 (c.toNat : Int)] w (Got fun v w' => OSt w' w.heap.size v (cutS c s) ∧ On w w') := by
  have hss := Aside0.mk (strB_size s)
  have hl' := Aside0.mk hl
  clear hl
  go_enter Tryz.func54, Tryz.ntmps54
  go_wp2
  go_loopw [5, 6, 7] (fun v5 v6 v7 wr => ∃ (i fr : Nat) (ls : List (List UInt8)), fr ≤ i ∧ i ≤ s.length ∧ v6 = .int .i64 fr ∧ v7 = .int .i64 i ∧ OSt wr w.heap.size v5 ls ∧ ls.length ≤ i ∧ Aside0 (ls ++ preP ((s.drop fr).take (i - fr)) (cutS c (s.drop i)) = cutS c s) ∧ On w wr) (fun _ _ v7 _ => s.length - (intOf v7).toNat)
  case atStart => exact ⟨0, 0, [], Nat.le_refl _, Nat.zero_le _, rfl, rfl, ownS0 rfl (Nat.le_refl _), Nat.le_refl _, ⟨by simp [preP_nil]⟩, On.alloc (On.refl _) _⟩
  case round =>
    obtain ⟨i, fr, ls, hf, hi, rfl, rfl, hO, hll, hp, hB⟩ := hrel
    have hO' := Aside0.mk hO
    have hB' := Aside0.mk hB
    have hfi := Aside0.mk (And.intro hf hll)
    clear hO hB hll
    by_cases hlt : i < s.length
    · have hb1 : i < (strB s).size := by rw [hss.out]; exact hlt
      have hlt' := Aside0.mk hlt
      have hwk := Aside0.mk (show wrap64 ((i : Int) + 1) = ((i + 1 : Nat) : Int) by rw [IntWalk.wrap64_in _ (by have := hl'.out; omega)]; omega)
      have hil := Aside0.mk (show i + 1 ≤ s.length from hlt)
      obtain ⟨b, hbb⟩ : ∃ b, s[i]'hlt = b := ⟨_, rfl⟩
      have hat := strB_at s i hlt b hbb
      by_cases hc : b = c
      · have hce := Aside0.mk (cutS_hit hlt (hbb.trans hc))
        have hbc : ((b.toNat : Int) == (c.toNat : Int)) = true := by rw [hc]; simp
        have hbe : ((b.toNat : Int) = (c.toNat : Int)) = True := eq_true (by rw [hc])
        have e1 : (strB s).extract fr i = strB ((s.drop fr).take (i - fr)) := strB_extract s fr i
        have hz1 : (i : Int) ≤ ((strB s).size : Int) := by omega
        have hz2 : fr ≤ i := hf
        clear hc hbb hlt
        go_wp2_with (refine gate 25 ?_)
        refine ⟨litS1 25 (y := (s.drop fr).take (i - fr)) ?_⟩
        have hOA := Aside0.mk (own_ex hO'.out (Ex.of_on (S := fun _ => False) (On.alloc (On.refl wr) (.cells #[.string (strB ((s.drop fr).take (i - fr)))] 9 (0, 0)))) (fun _ _ h => h))
        have hBA := Aside0.mk (hB'.out.trans (On.alloc (On.refl wr) (.cells #[.string (strB ((s.drop fr).take (i - fr)))] 9 (0, 0))))
        obtain ⟨ys, hys⟩ : ∃ ys, ls ++ [(s.drop fr).take (i - fr)] = ys := ⟨_, rfl⟩
        have hys' := Aside0.mk hys
        refine apS1 26 hys hOA.out (lit_S wr ((s.drop fr).take (i - fr))) hBA.out.size (by have := hfi.out; have := hlt'.out; have := hl'.out; omega) fun v3 w3 hO3 hg3 => ?_
        have hO3' := Aside0.mk hO3
        have hB3 := Aside0.mk (Ex.on hBA.out (Ex.of_grown hg3) (fun i e => own_base hO'.out i e.symm))
        clear hys hO3 hg3
        go_wp2
        refine ⟨⟨i + 1, i + 1, ys, Nat.le_refl _, hil.out, by rw [hwk.out], by rw [hwk.out], hO3'.out, by rw [← hys'.out]; have := hfi.out; simp; omega, ⟨?_⟩, hB3.out⟩, by rw [hwk.out]; simp [intOf]; have := hil.out; omega⟩
        have := hp.out
        rw [hce.out, preP, List.append_nil] at this
        rw [← hys'.out, Nat.sub_self, List.take_zero, preP_nil, List.append_assoc]
        exact this
      · have hce := Aside0.mk (cutS_miss hlt (by rw [hbb]; exact hc))
        have hto := Aside0.mk (take_one hlt hf)
        rw [hbb] at hce hto
        have hbc : ((b.toNat : Int) == (c.toNat : Int)) = false := by simp; exact fun e => hc (UInt8.toNat_inj.1 (by omega))
        have hbe : ((b.toNat : Int) = (c.toNat : Int)) = False := eq_false (fun e => hc (UInt8.toNat_inj.1 (by omega)))
        clear hc hbb hlt
        go_wp2
        refine ⟨⟨i + 1, fr, ls, by have := hfi.out; omega, hil.out, rfl, by rw [hwk.out], hO'.out, by have := hfi.out; omega, ⟨by rw [hto.out]; have := hp.out; rw [hce.out, preP_preP] at this; exact this⟩, hB'.out⟩, by rw [hwk.out]; simp [intOf]; have := hil.out; omega⟩
    · have e1 : (strB s).extract fr (strB s).size = strB (s.drop fr) := strB_rest s fr
      have hz1 : fr ≤ (strB s).size := by rw [hss.out]; omega
      have hz3 : (fr : Int) ≤ ((strB s).size : Int) := by omega
      have hz2 : ¬ i < (strB s).size := by rw [hss.out]; exact hlt
      have hfin := Aside0.mk (show ls ++ [s.drop fr] = cutS c s by
        have h := hp.out
        rw [List.drop_eq_nil_of_le (by omega : s.length ≤ i), cutS, preP, List.append_nil, List.take_of_length_le (by simp; omega)] at h
        exact h)
      have hii := Aside0.mk (And.intro hi hlt)
      clear hlt hi hp
      go_wp2_with (refine gate 33 ?_)
      refine ⟨litS1 33 (y := s.drop fr) ?_⟩
      have hOA := Aside0.mk (own_ex hO'.out (Ex.of_on (S := fun _ => False) (On.alloc (On.refl wr) (.cells #[.string (strB (s.drop fr))] 9 (0, 0)))) (fun _ _ h => h))
      have hBA := Aside0.mk (hB'.out.trans (On.alloc (On.refl wr) (.cells #[.string (strB (s.drop fr))] 9 (0, 0))))
      refine apS1 34 hfin.out hOA.out (lit_S wr (s.drop fr)) hBA.out.size (by have := hfi.out; have := hl'.out; have := hii.out; omega) fun v3 w3 hO3 hg3 => ?_
      have hO3' := Aside0.mk hO3
      have hB3 := Aside0.mk (Ex.on hBA.out (Ex.of_grown hg3) (fun i e => own_base hO'.out i e.symm))
      clear hO3 hg3
      go_wp2
      go_ret
      exact ⟨_, rfl, hO3'.out, hB3.out⟩
end Go.Proofs.YtgemaohdlibboaaGreatDoor.H
/- Walks: a text spoiled. What is told: its length. No condition. -/
namespace Go.Proofs.YtgemaohdlibboaaGreatDoor.H
open Go Go.RowKit Go.Proofs.YtgemaohdlibboaaGreatDoorW.PrintWords Go.Proofs.YtgemaohdlibboaaGreatDoorW.PrintLast
open Go.Proofs.YtgemaohdlibboaaGreatDoor.Reg (On on_draw)
set_option maxHeartbeats 4000000
set_option maxRecDepth 100000
set_option linter.unusedVariables false
set_option linter.unusedSimpArgs false

/-- What a region that spoils comes to. -/
structure MSp (w0 w : World) (q n : Nat) (a' : Act) (w' : World) : Prop where mk :: (out : ∃ t : List UInt8, a'.tmps.getD 4 undef = .string (strB t) ∧ t.length ≤ n + 3 ∧ a'.defers = [] ∧ Cu w0 w' q ∧ Ex (fun b => b = q) w w')
theorem l1Spoil_calls (w0 w : World) (q : Nat) (hC : Cu w0 w q) (s : List UInt8) (hl : s.length ≤ 1000) : Calls Tryz.prog 68 #[.pointer (some ⟨q, 0, none⟩), .string (strB s)] w (Dr w0 w q fun v _ => ∃ t : List UInt8, v = .string (strB t) ∧ t.length ≤ s.length + 3) := by
  have hC' := Aside0.mk hC
  have hl' := Aside0.mk hl
  clear hC hl
  have hsz := strB_size s
  by_cases h0 : s = []
  · have z1 : ((strB s).size == 0) = true := by rw [hsz, h0]; rfl
    have z2 : (((strB s).size : Int) == 0) = true := by rw [hsz, h0]; rfl
    have z3 : (strB s).size = 0 := by rw [hsz, h0]; rfl
    have h0' := Aside0.mk h0
    clear h0 hsz
    go_enter Tryz.func68, Tryz.ntmps68
    go_wp2_with (go_at_call 143; refine Stop.out ?_)
    refine ⟨(l1Text_calls w0 w q hC'.out).mono ?_⟩
    rintro e w1 ⟨v, rfl, ⟨t, rfl, ht⟩, hC1, hE1⟩
    have ht' := Aside0.mk ht
    have hC1' := Aside0.mk hC1
    have hE1' := Aside0.mk hE1
    clear ht hC1 hE1 z1 z2 z3
    go_wp2
    go_ret
    exact ⟨_, rfl, ⟨t, rfl, by have := ht'.out; omega⟩, hC1'.out, hE1'.out⟩
  · have hpos := Aside0.mk (show 1 ≤ s.length from Nat.pos_of_ne_zero (fun e => h0 (List.length_eq_zero_iff.1 e)))
    have z1 : ((strB s).size == 0) = false := by rw [hsz]; have := hpos.out; simp; omega
    have z2 : (((strB s).size : Int) == 0) = false := by rw [hsz]; have := hpos.out; simp; omega
    have z3 : ((strB s).size = 0) = False := eq_false (by rw [hsz]; have := hpos.out; omega)
    clear h0
    go_enter Tryz.func68, Tryz.ntmps68
    go_wp2_with (go_at_call 138; refine Stop.out ?_)
    clear z1 z2 z3
    refine ⟨(l1BelowB_calls w0 w q hC'.out ((strB s).size : Int) (by rw [hsz]; have := hpos.out; omega) (by rw [hsz]; have := hl'.out; omega)).mono ?_⟩
    rintro e w1 ⟨v, rfl, ⟨x, rfl, hx⟩, hC1, hE1⟩
    obtain ⟨k, rfl⟩ := Int.eq_ofNat_of_zero_le hx.1
    have hk := Aside0.mk (show k < s.length by have := hx.2; rw [hsz] at this; omega)
    have hC1' := Aside0.mk hC1
    have hE1' := Aside0.mk hE1
    clear hC1 hE1 hx
    go_wp2_with (go_at_call 138; refine Stop.out ?_)
    refine ⟨(l1Below_calls w0 _ q hC1'.out 4 (by omega) (by omega)).mono ?_⟩
    rintro e w2 ⟨v, rfl, ⟨j, rfl, hj⟩, hC2, hE2⟩
    have hC2' := Aside0.mk hC2
    have hE2' := Aside0.mk (hE1'.out.trans hE2 fun _ _ h => h)
    have hj' := Aside0.mk hj
    have hkz : k < (strB s).size := by rw [hsz]; exact hk.out
    have hs1 : ∀ wx, (Instr.slice 9 (.string (strB s)) none (some (.int .i64 (k : Int))) none).run Tryz.prog wx = .ok (.string (strB (s.take k))) wx := fun wx => by
      rw [run_slice_string_h wx 9 (strB s) Tryz.underlying9 .i64 (k : Int) (by omega) (by omega)]
      rw [Int.toNat_natCast, strB_extract]; rfl
    have hs3 : ∀ wx, (Instr.slice 9 (.string (strB s)) (some (.int .i64 (k : Int))) none none).run Tryz.prog wx = .ok (.string (strB (s.drop k))) wx := fun wx => by
      rw [run_slice_string_l wx 9 (strB s) Tryz.underlying9 .i64 (k : Int) (by omega) (by omega)]
      rw [Int.toNat_natCast, strB_rest]
    have hs2 : ∀ wx, (Instr.slice 9 (.string (strB s)) (some (.int .i64 ((k : Int) + 1))) none none).run Tryz.prog wx = .ok (.string (strB (s.drop (k + 1)))) wx := fun wx => by
      rw [run_slice_string_l wx 9 (strB s) Tryz.underlying9 .i64 ((k : Int) + 1) (by omega) (by omega)]
      rw [show ((k : Int) + 1).toNat = k + 1 by omega, strB_rest]
    obtain ⟨a, ha⟩ : ∃ a, s.take k = a := ⟨_, rfl⟩
    obtain ⟨d, hd⟩ : ∃ d, s.drop k = d := ⟨_, rfl⟩
    obtain ⟨d1, hd1⟩ : ∃ d1, s.drop (k + 1) = d1 := ⟨_, rfl⟩
    have hlen := Aside0.mk (show a.length = k ∧ d.length = s.length - k ∧ d1.length = s.length - (k + 1) ∧ k < s.length by rw [← ha, ← hd, ← hd1]; have := hk.out; simp; omega)
    rw [ha] at hs1
    rw [hd] at hs3
    rw [hd1] at hs2
    have hsz' := Aside0.mk hsz
    clear hC2 hE2 hj ha hd hd1 hsz
    by_cases j0 : j = 0
    · subst j0
      have c1 := strB_append a d1
      have y1 := szOk (a := a) (b := d1) (by have := hlen.out; have := hl'.out; omega)
      have hwk : IntKind.i64.wrap ((k : Int) + 1) = (k : Int) + 1 := IntWalk.i64_in _ (by have := hk.out; have := hl'.out; omega)
      go_wp2
      refine Reg.region [(0,.L),(1,.L),(2,.L),(3,.L),(4,.L),(5,.L),(6,.L),(7,.L)] [8] (by kernel_rfl) (by kernel_rfl) ?_
      repeat first | refine sP ?_ | refine sS ?_ | refine sA ?_ | refine sL ?_ | refine sQ ?_ | refine sO ?_
      refine Reg.tail_ fun w3 hS => ?_
      have hS' := Aside0.mk hS
      clear hS
      go_wp2
      go_ret
      exact ⟨_, rfl, ⟨_, rfl, by have := hlen.out; simp; omega⟩, hC2'.out.next hS'.out, hE2'.out.then_on hS'.out⟩
    · have k0 : (j == 0) = false := by simpa using j0
      have k1 : (j = 0) = False := eq_false j0
      clear j0
      by_cases j1 : j = 1
      · subst j1
        have hap : ∀ u v, strB u ++ strB v = strB (u ++ v) := strB_append
        have hso : ∀ e, strOfNums [e] = strB [UInt8.ofNat e.toNat] := fun _ => rfl
        have hz1 : ∀ y, (9223372036854775807 < (strB a).size + (strB [y]).size) = False := fun y => szOk (by have := hlen.out; have := hl'.out; simp; omega)
        have hz2 : ∀ y, (9223372036854775807 < (strB (a ++ [y])).size + (strB d).size) = False := fun y => szOk (by have := hlen.out; have := hl'.out; simp; omega)
        go_wp2
        refine Reg.regionH (fun _ => True) (.r 0 (.r 1 (.r 2 (.r 3 (.r 9 (.r 10 (.r 11 (.n 4 (.r 5 (.n 6 (.leaf [7,8,12,13]))))))))))) 13 (fun a' a'' w' => MSp w0 w q s.length a'' w') (by kernel_rfl) (by kernel_rfl) trivial ?_ ?_
        · obtain ⟨u0, hu0⟩ : ∃ u0, ({ w2 with drawn := w2.drawn + 1 } : World) = u0 := ⟨_, rfl⟩
          have hS0 := Aside0.mk (show On w2 u0 from (hu0 ▸ on_draw w2))
          rw [hu0]
          clear hu0
          refine Reg.hR ?_
          refine Reg.hR ?_
          refine Reg.hR ?_
          refine Reg.hR ?_
          refine Reg.hR ?_
          refine Reg.hR ?_
          refine Reg.hR ?_
          refine Reg.hN ?_
          refine goesF 33 Tryz.func144 ((l1Byte_calls w0 u0 q (hC2'.out.next hS0.out)).mono ?_)
          rintro e u1 ⟨v, rfl, ⟨y, rfl, hy⟩, hC3, hE3⟩
          have hC3' := Aside0.mk hC3
          have hE3' := Aside0.mk ((hE2'.out.then_on hS0.out).trans hE3 fun _ _ h => h)
          clear hC3 hE3 hy
          refine ⟨_, rfl, trivial, ?_⟩
          simp only [Act.put, List.setIfInBounds_toArray, List.set_cons_zero, List.set_cons_succ]
          refine Reg.hR ?_
          refine Reg.hN ?_
          go_wp2
          refine ⟨trivial, ?_⟩
          refine Reg.hLeaf ?_
          have hcv := conv_str (lit_OB u1 (y % 256))
          refine Reg.tG ?_
          go_wp2
          refine ⟨trivial, ?_⟩
          clear hcv
          refine Reg.tG ?_
          go_wp2
          refine ⟨trivial, ?_⟩
          refine Reg.tG ?_
          go_wp2
          refine ⟨trivial, ?_⟩
          refine Reg.tE ?_
          go_wp2
          exact ⟨trivial, _, rfl, by have := hlen.out; simp; omega, rfl, hC3'.out.next (On.alloc (On.refl u1) _), hE3'.out.then_on (On.alloc (On.refl u1) _)⟩
        · skip
          intro a' w' hM
          obtain ⟨t, h4, hlt, hd, hCu, hEx⟩ := hM.out
          go_wp2
          refine bodyPost_ret (results_tmp (t := 4) rfl a'.tmps _ w') hd ?_
          exact ⟨_, rfl, ⟨t, h4, hlt⟩, hCu, hEx⟩
      · have k2 : (j == 1) = false := by simpa using j1
        have k3 : (j = 1) = False := eq_false j1
        clear j1
        by_cases j2 : j = 2
        · subst j2
          go_wp2
          go_ret
          exact ⟨_, rfl, ⟨_, rfl, by have := hlen.out; omega⟩, hC2'.out, hE2'.out⟩
        · have k4 : (j == 2) = false := by simpa using j2
          have k5 : (j = 2) = False := eq_false j2
          clear j2
          have hap : ∀ u v, strB u ++ strB v = strB (u ++ v) := strB_append
          have hso : ∀ e, strOfNums [e] = strB [UInt8.ofNat e.toNat] := fun _ => rfl
          have hz1 : ∀ y, (9223372036854775807 < (strB a).size + (strB [y]).size) = False := fun y => szOk (by have := hlen.out; have := hl'.out; simp; omega)
          have hz2 : ∀ y, (9223372036854775807 < (strB (a ++ [y])).size + (strB d1).size) = False := fun y => szOk (by have := hlen.out; have := hl'.out; simp; omega)
          have hwk : IntKind.i64.wrap ((k : Int) + 1) = (k : Int) + 1 := IntWalk.i64_in _ (by have := hk.out; have := hl'.out; omega)
          obtain ⟨bk, hbk⟩ : ∃ bk, s[k]'hk.out = bk := ⟨_, rfl⟩
          have hat := strB_at s k hk.out bk hbk
          clear hbk
          go_wp2
          refine Reg.regionH (fun _ => True) (.r 0 (.r 1 (.r 2 (.r 3 (.r 4 (.r 5 (.r 6 (.r 7 (.r 15 (.r 16 (.r 17 (.r 18 (.n 8 (.r 9 (.r 10 (.r 11 (.n 12 (.leaf [13,14,19,20])))))))))))))))))) 20 (fun a' a'' w' => MSp w0 w q s.length a'' w') (by kernel_rfl) (by kernel_rfl) trivial ?_ ?_
          · obtain ⟨u0, hu0⟩ : ∃ u0, ({ w2 with drawn := w2.drawn + 1 } : World) = u0 := ⟨_, rfl⟩
            have hS0 := Aside0.mk (show On w2 u0 from (hu0 ▸ on_draw w2))
            rw [hu0]
            clear hu0
            refine Reg.hR ?_
            refine Reg.hR ?_
            refine Reg.hR ?_
            refine Reg.hR ?_
            refine Reg.hR ?_
            refine Reg.hR ?_
            refine Reg.hR ?_
            refine Reg.hR ?_
            refine Reg.hR ?_
            refine Reg.hR ?_
            refine Reg.hR ?_
            refine Reg.hR ?_
            refine Reg.hN ?_
            refine goesF 55 Tryz.func138 ((l1Below_calls w0 u0 q (hC2'.out.next hS0.out) 255 (by omega) (by omega)).mono ?_)
            rintro e u1 ⟨v, rfl, ⟨y, rfl, hy⟩, hC3, hE3⟩
            have hwy : IntKind.i64.wrap (1 + y) = 1 + y := IntWalk.i64_in _ (by omega)
            have hwz : wrap64 (1 + y) = 1 + y := IntWalk.wrap64_in _ (by omega)
            have hC3' := Aside0.mk hC3
            have hE3' := Aside0.mk ((hE2'.out.then_on hS0.out).trans hE3 fun _ _ h => h)
            clear hC3 hE3 hy
            refine ⟨_, rfl, trivial, ?_⟩
            simp only [Act.put, List.setIfInBounds_toArray, List.set_cons_zero, List.set_cons_succ]
            refine Reg.hR ?_
            refine Reg.hR ?_
            refine Reg.hR ?_
            refine Reg.hN ?_
            go_wp2
            refine ⟨trivial, ?_⟩
            refine Reg.hLeaf ?_
            have hcv := fun e => conv_str (lit_OB u1 e)
            refine Reg.tG ?_
            go_wp2
            refine ⟨trivial, ?_⟩
            clear hcv
            refine Reg.tG ?_
            go_wp2
            refine ⟨trivial, ?_⟩
            refine Reg.tG ?_
            go_wp2
            refine ⟨trivial, ?_⟩
            refine Reg.tE ?_
            go_wp2
            exact ⟨trivial, _, rfl, by have := hlen.out; simp; omega, rfl, hC3'.out.next (On.alloc (On.refl u1) _), hE3'.out.then_on (On.alloc (On.refl u1) _)⟩
          · skip
            intro a' w' hM
            obtain ⟨t, h4, hlt, hd, hCu, hEx⟩ := hM.out
            go_wp2
            refine bodyPost_ret (results_tmp (t := 4) rfl a'.tmps _ w') hd ?_
            exact ⟨_, rfl, ⟨t, h4, hlt⟩, hCu, hEx⟩
end Go.Proofs.YtgemaohdlibboaaGreatDoor.H
/- Walks: the draws of instances. What is told: sizes and ranges. No condition. -/
namespace Go.Proofs.YtgemaohdlibboaaGreatDoor.H
open Go Go.RowKit Go.Proofs.YtgemaohdlibboaaGreatDoorW.PrintWords Go.Proofs.YtgemaohdlibboaaGreatDoorW.PrintLast
open Go.Proofs.YtgemaohdlibboaaGreatDoor.Reg (On on_draw)
set_option maxHeartbeats 4000000
set_option maxRecDepth 100000
set_option linter.unusedVariables false
set_option linter.unusedSimpArgs false

theorem RS.start {S : Nat → Prop} {w : World} {lo : Nat} {A : Option Addr} {n c : Nat} {rs : List Rel} (h : OR w lo (.slice A n c) rs) (hS : ∀ b, lo ≤ b → b < w.heap.size → ¬ S b) : RS S w (.agg #[.slice A n c, .slice none 0 0]) rs [] := by
  obtain rfl := (OR.same h).1
  refine ⟨A, c, none, 0, [], rfl, fun w' k => ?_⟩
  have h3 := own_ex h k (fun i hi e => hS i (own_base h i hi) (own_lt h i hi) e)
  exact ⟨(OR.same h3).2, (OH.rh (World.ownsRow_nil w' 0 60 2 : OH w' 0 (.slice none 0 0) [])).2, Reads.nil _⟩
end Go.Proofs.YtgemaohdlibboaaGreatDoor.H
/- Walks: the draws of instances, once more. What is told: sizes and ranges. No condition. -/
namespace Go.Proofs.YtgemaohdlibboaaGreatDoor.H
open Go Go.RowKit Go.Proofs.YtgemaohdlibboaaGreatDoorW.PrintWords Go.Proofs.YtgemaohdlibboaaGreatDoorW.PrintLast
open Go.Proofs.YtgemaohdlibboaaGreatDoor.Reg (On on_draw)
set_option maxHeartbeats 4000000
set_option maxRecDepth 100000
set_option linter.unusedVariables false
set_option linter.unusedSimpArgs false

end Go.Proofs.YtgemaohdlibboaaGreatDoor.H
/- Walks: the draw of any fact. What is told: sizes and ranges. No condition. -/
namespace Go.Proofs.YtgemaohdlibboaaGreatDoor.H
open Go Go.RowKit Go.Proofs.YtgemaohdlibboaaGreatDoorW.PrintWords Go.Proofs.YtgemaohdlibboaaGreatDoorW.PrintLast
open Go.Proofs.YtgemaohdlibboaaGreatDoor.Reg (On on_draw)
set_option maxHeartbeats 4000000
set_option maxRecDepth 100000
set_option linter.unusedVariables false
set_option linter.unusedSimpArgs false

/-- The first number of a row stored. -/
theorem OI.set0 {W : World} {lo : Nat} {A : Option Addr} {n c : Nat} {y : Int} {ys : List Int} (h : OI W lo (.slice A n c) (y :: ys)) : ∃ g, A = some ⟨g, 0, none⟩ ∧ lo ≤ g ∧ g < W.heap.size ∧ (∃ z, W.cell? ⟨g, 0, none⟩ = some z) ∧ W.frozen? ⟨g, 0, none⟩ = false ∧ ∀ x, OI (W.setCell ⟨g, 0, none⟩ (.int .i64 x)) lo (.slice A n c) (x :: ys) := by
  have hx := h.1
  rcases h.2 with ⟨h', hn⟩ | ⟨g, cap, cur, h', hg, hh, hnc, hcm, hcs, htk⟩
  · simp at hn
  · injection h' with e1 e2 e3
    subst e1 e2 e3
    refine ⟨g, rfl, hg, own_lt h g rfl, ?_, own_frozen h 0, fun x => ?_⟩
    · obtain ⟨z, hz⟩ := own_some h 0 (by simp)
      exact ⟨z, hz⟩
    · have := (h.stored 0 (.int .i64 x)).1
      exact this
theorem fact_end {w0 w wz : World} {q : Nat} {rz : Int} {Az : Option Addr} {n cz : Nat} {zs : List Int} (hqw : q < w.heap.size) (hq0 : w0.heap.size ≤ q) (hO : OI wz (w.heap.size + 1) (.slice Az n cz) zs) (hI : InR zs) (hl : zs.length ≤ 3) (hC : Cu w0 wz q) (hE : Ex (fun b => b = q) w wz) :
    Dr w0 w q (fun v w' => ∃ f : Fct, OFa w' w.heap.size v f ∧ f.2.length ≤ 3) (.returned (.agg #[.int .i64 rz, .slice Az n cz])) ((wz.setCell ⟨w.heap.size, 0, none⟩ (.int .i64 rz)).setCell ⟨w.heap.size, 1, none⟩ (.slice Az n cz)) := by
  have EE := (Ex.set wz ⟨w.heap.size, 0, none⟩ (.int .i64 rz)).trans (Ex.set _ ⟨w.heap.size, 1, none⟩ (.slice Az n cz)) (fun _ _ h => h)
  exact ⟨_, rfl, ⟨(rz, zs), ⟨_, rfl, own_lower (own_ex hO EE (fun i hi e => by have := own_base hO i hi; have e' : i = w.heap.size := e; omega)) (by omega), hI⟩, hl⟩,
    hC.ex EE (fun b hb => by have e' : b = w.heap.size := hb; omega), hE.trans EE (fun i hi h => by have e' : i = w.heap.size := h; omega)⟩
theorem l4Any_calls (w0 w : World) (q : Nat) (hC : Cu w0 w q) :
    Calls Tryz.prog 116 #[.pointer (some ⟨q, 0, none⟩)] w (Dr w0 w q fun v w' => ∃ f : Fct, OFa w' w.heap.size v f ∧ f.2.length ≤ 3) := by
  have hC' := Aside0.mk hC
  have hqw := Aside0.mk hC.lt
  have hq0 := Aside0.mk hC.lo
  have hb0 := Aside0.mk (On.alloc (On.refl w) (.cells #[.int .i64 0, .slice none 0 0] 60 (0, 0)))
  have hl0 := Aside0.mk (loc_new w #[.int .i64 0, .slice none 0 0] 60)
  clear hC
  go_enter Tryz.func116, Tryz.ntmps116
  go_wp2_with (go_at_call 138; refine Stop.out ?_)
  refine ⟨(l1Below_calls w0 _ q (hC'.out.next hb0.out) 5 (by omega) (by omega)).mono ?_⟩
  rintro e w1 ⟨v, rfl, ⟨x, rfl, hx⟩, hC1, hE1⟩
  obtain ⟨k, rfl⟩ := Int.eq_ofNat_of_zero_le hx.1
  have hk := Aside0.mk (show k < 5 by omega)
  have hC1' := Aside0.mk hC1
  have hE1' := Aside0.mk ((Ex.of_on (S := fun b => b = q) hb0.out).trans hE1 fun _ _ h => h)
  have hr1 := Aside0.mk (blk_ex hE1 hl0.out (by have := hqw.out; omega))
  clear hC1 hE1 hx
  go_wp2_with (go_at_call 170; refine Stop.out ?_)
  refine ⟨(l4Fact_calls w0 _ q hC1'.out k hk.out 4 (by omega) (by omega)).mono ?_⟩
  rintro e w2 ⟨v, rfl, ⟨f, hO, hf1, hf2⟩, hC2, hE2⟩
  obtain ⟨v2, rfl, hO, hI⟩ := hO.out
  obtain ⟨A2, c2, rfl⟩ := own_slice hO
  have hO' := Aside0.mk (own_lower (lo' := w.heap.size + 1) hO (by have := blk_lt hr1.out; omega))
  have hI' := Aside0.mk hI
  have hf2' := Aside0.mk (show 1 ≤ f.2.length ∧ f.2.length ≤ 2 by rw [hf2]; exact arN_in k)
  have hC2' := Aside0.mk hC2
  have hE2' := Aside0.mk (hE1'.out.trans hE2 fun _ _ h => h)
  have hr2 := Aside0.mk (blk_ex hE2 hr1.out (by have := hqw.out; omega))
  clear hC2 hE2 hO hI hf1 hf2
  obtain ⟨r, xs⟩ := f
  simp only at hO' hI' hf2' ⊢
  have hfill := alloc_fill w2
  go_wp2_with (go_at_call 138; refine Stop.out ?_)
  refine ⟨?_⟩
  clear hfill
  obtain ⟨wa, hwa⟩ : ∃ wa, w2.alloc (.cells #[.int .i64 r, .slice A2 xs.length c2] 60 (0, 0)) = wa := ⟨_, rfl⟩
  have hl3 := Aside0.mk (show wa.heap[w2.heap.size]? = some (.cells #[.int .i64 r, .slice A2 xs.length c2] 60 (0, 0)) from hwa ▸ loc_new w2 _ _)
  have hba := Aside0.mk (show On w2 wa from hwa ▸ On.alloc (On.refl _) _)
  rw [hwa]
  clear hwa
  have hbl := Aside0.mk (show w.heap.size < w2.heap.size from blk_lt hr2.out)
  have hblx := Aside0.mk (show ∀ i, (Value.slice A2 xs.length c2).ownBlock = some i → i < w2.heap.size from fun i hi => own_lt hO'.out i hi)
  obtain ⟨g3, hg3⟩ : ∃ g3, w2.heap.size = g3 := ⟨_, rfl⟩
  rw [hg3] at hl3 hbl hblx ⊢
  clear hg3
  refine (l1Below_calls w0 _ q (hC2'.out.next hba.out) 10 (by omega) (by omega)).mono ?_
  rintro e w3 ⟨v, rfl, ⟨x, rfl, hx⟩, hC3, hE3⟩
  have hC3' := Aside0.mk hC3
  have hE3a := Aside0.mk ((Ex.of_on (S := fun b => b = q) hba.out).trans hE3 fun _ _ h => h)
  have hr3 := Aside0.mk (blk_ex hE3a.out hr2.out (by have := hqw.out; omega))
  have hg3 := Aside0.mk (blk_ex hE3 hl3.out (by have := hqw.out; have := hbl.out; omega))
  have hE3' := Aside0.mk (hE2'.out.trans hE3a.out fun _ _ h => h)
  have hO3 := Aside0.mk (own_ex hO'.out hE3a.out (fun i hi e => by have := own_base hO'.out i hi; have := hqw.out; omega))
  clear hC3 hE3 hx
  by_cases hx0 : x = 0
  · subst hx0
    go_wp2_with (go_at_call 138; refine Stop.out ?_)
    refine ⟨(l1Below_calls w0 _ q hC3'.out 7 (by omega) (by omega)).mono ?_⟩
    rintro e w4 ⟨v, rfl, ⟨y, rfl, hy⟩, hC4, hE4⟩
    have hw : wrap64 (y - 1) = y - 1 := IntWalk.wrap64_in _ (by omega)
    have hC4' := Aside0.mk hC4
    have hr4 := Aside0.mk (blk_ex hE4 hr3.out (by have := hqw.out; omega))
    have hg4 := Aside0.mk (blk_ex hE4 hg3.out (by have := hqw.out; have := hbl.out; omega))
    have hE4' := Aside0.mk (hE3'.out.trans hE4 fun _ _ h => h)
    have hO4 := Aside0.mk (own_ex hO3.out hE4 (fun i hi e => by have := own_base hO3.out i hi; have := hqw.out; omega))
    clear hC4 hE4 hy
    have hne := Aside0.mk (show w.heap.size ≠ g3 by have := hbl.out; omega)
    have hd0 := blk_cell hg4.out
    have hf0 := blk_frozen hg4.out
    have hx4 := Aside0.mk (show (w4.setCell ⟨g3, 0, none⟩ (.int .i64 (y - 1))).heap[w.heap.size]? = _ from blk_far hr4.out (by show ¬ _; simp; have := hbl.out; omega) _)
    have hd1 := blk_cell hx4.out
    have hf1 := blk_frozen hx4.out
    go_wp2
    refine bodyPost_ret (retF rfl rfl (g := w.heap.size) (blk_set (blk_set hx4.out 0 _) 1 _) rfl) rfl ?_
    have EX := Ex.set w4 ⟨g3, 0, none⟩ (.int .i64 (y - 1))
    have hb1 := hbl.out
    have hb2 := hqw.out
    have hb3 := hq0.out
    exact fact_end hqw.out hq0.out (own_ex hO4.out EX (fun i hi e => by have e' : i = g3 := e; have := hblx.out i hi; omega)) hI'.out (by have := hf2'.out; omega) (hC4'.out.ex EX (fun b hb => by have e' : b = g3 := hb; omega)) (hE4'.out.trans EX (fun i hi h => by have e' : i = g3 := h; omega))
  · by_cases hx1 : x = 1
    · subst hx1
      have hd0 := blk_cell hg3.out
      have hf0 := blk_frozen hg3.out
      go_wp2_with (refine gate 21 ?_)
      have hI5 := Aside0.mk (lit_I w3 1 (by omega))
      have hS5 := Aside0.mk (On.alloc (On.refl w3) (.cells #[.int .i64 1] 3 (0, 0)))
      obtain ⟨ys, hys⟩ : ∃ ys, xs ++ [1] = ys := ⟨_, rfl⟩
      refine ⟨apI 21 hys (OI.to (pw_own_below hO3.out hS5.out)) hI5.out.2.1 (by have := blk_lt (blk_below hr3.out hS5.out); omega) (by have := hf2'.out; simp; omega) fun v6 w6 hO6 hg6 hat6 => ?_⟩
      have hO6' := Aside0.mk (OI.of hO6)
      have hS6 := Aside0.mk (Ex.of_grown hg6)
      have hr6 := Aside0.mk (blk_ex hS6.out (blk_below hr3.out hS5.out) (fun e => by have := own_base hO3.out _ e.symm; omega))
      have hg6' := Aside0.mk (blk_ex hS6.out (blk_below hg3.out hS5.out) (fun e => by have := hblx.out _ e.symm; omega))
      have hyl := Aside0.mk (show ys.length = xs.length + 1 by rw [← hys]; simp)
      have hyi := Aside0.mk (show InR ys by rw [← hys]; intro z hz; rcases List.mem_append.1 hz with h | h; exact hI'.out z h; rw [List.mem_singleton.1 h]; omega)
      have hlt6 := Aside0.mk (show ∀ i, v6.ownBlock = some i → i ≠ g3 ∧ w.heap.size < i from fun i hi => by
        have h1 := own_base hO6'.out i hi
        refine ⟨?_, by omega⟩
        rcases hat6 with e | ⟨b, e, hb⟩
        · have := hblx.out i (e ▸ hi); omega
        · rw [e] at hi; cases hi; have := blk_lt (blk_below hg3.out hS5.out); omega)
      clear hO6 hg6 hat6 hys hd0 hf0
      obtain ⟨A6, c6, rfl⟩ := own_slice hO6'.out
      have hd6 := blk_cell hg6'.out
      have hf6 := blk_frozen hg6'.out
      have hx6 := Aside0.mk (show (w6.setCell ⟨g3, 1, none⟩ (.slice A6 ys.length c6)).heap[w.heap.size]? = _ from blk_far hr6.out (by show ¬ _; simp; have := hbl.out; omega) _)
      have hd1 := blk_cell hx6.out
      have hf1 := blk_frozen hx6.out
      go_wp2
      refine bodyPost_ret (retF rfl rfl (g := w.heap.size) (blk_set (blk_set hx6.out 0 _) 1 _) rfl) rfl ?_
      have EX := Ex.set w6 ⟨g3, 1, none⟩ (.slice A6 ys.length c6)
      have hb1 := hbl.out
      have hb2 := hqw.out
      have hb3 := hq0.out
      have hE6 := (hE3'.out.then_on hS5.out).trans hS6.out (fun i hi h => by have := own_base hO3.out i h.symm; omega)
      exact fact_end hqw.out hq0.out (own_ex hO6'.out EX (fun i hi e => by have e' : i = g3 := e; have := (hlt6.out i hi).1; omega)) hyi.out (by have := hf2'.out; have := hyl.out; omega) (((hC3'.out.next hS5.out).ex hS6.out (fun b hb => by have := own_base hO3.out b hb.symm; omega)).ex EX (fun b hb => by have e' : b = g3 := hb; omega)) (hE6.trans EX (fun i hi h => by have e' : i = g3 := h; omega))
    · by_cases hx2 : x = 2
      · subst hx2
        have hd0 := blk_cell hg3.out
        have hf0 := blk_frozen hg3.out
        obtain ⟨y0, ys, rfl⟩ : ∃ y0 ys, xs = y0 :: ys := by
          cases xs with
          | nil => have := hf2'.out; simp at this
          | cons a b => exact ⟨a, b, rfl⟩
        obtain ⟨gr, rfl, hgr1, hgr2, -⟩ := OI.set0 hO3.out
        have hgr := Aside0.mk (show w.heap.size + 1 ≤ gr ∧ gr < g3 from ⟨hgr1, hblx.out gr rfl⟩)
        clear hgr1 hgr2
        go_wp2
        refine Reg.regionG (fun w' => w'.heap[g3]? = some (.cells #[.int .i64 r, .slice (some ⟨gr, 0, none⟩) (y0 :: ys).length c2] 60 (0, 0))) [0,1,2] [3,4,5,6] 6 (by kernel_rfl) (by kernel_rfl) hg3.out ?_
        repeat refine Reg.sG ?_
        refine Reg.startG ?_
        obtain ⟨w4, hw4⟩ : ∃ w4, ({ w3 with drawn := w3.drawn + 1 } : World) = w4 := ⟨_, rfl⟩
        have hS4 := Aside0.mk (show On w3 w4 from (hw4 ▸ on_draw w3))
        rw [hw4]
        clear hw4 hd0 hf0
        refine Reg.tG ?_
        go_wp2
        have hlt := Aside0.mk (show OI (w4.alloc (.cells #[.int .i64 10, .int .i64 (-41), .int .i64 9] 3 (0, 0))) w4.heap.size (.slice (some ⟨w4.heap.size, 0, none⟩) 3 3) [10, -41, 9] from lit_own w4 #[.int .i64 10, .int .i64 (-41), .int .i64 9] 3 1 3 w4.heap.size (Nat.le_refl _) (by omega) rfl)
        have hS5 := Aside0.mk (hS4.out.trans (On.alloc (On.refl w4) (.cells #[.int .i64 10, .int .i64 (-41), .int .i64 9] 3 (0, 0))))
        have hqs := Aside0.mk (show q < w4.heap.size from (hC3'.out.next hS4.out).lt)
        refine ⟨blk_below hg3.out hS5.out, ?_⟩
        refine Reg.tG ?_
        go_wp2_with (go_at_call 149; refine Stop.out ?_)
        refine ⟨(l1PickInt_calls w0 _ q (hC3'.out.next hS5.out) (some ⟨w4.heap.size, 0, none⟩) 3 [10, -41, 9] (fun w' k => (OI.same (own_ex hlt.out k (fun i hi e => by have := own_base hlt.out i hi; have := hqs.out; omega)) (fun z hz => by simp at hz; omega)).2) (by simp) (by simp)).mono ?_⟩
        rintro e w6 ⟨v, rfl, ⟨x, rfl, hx⟩, hC6, hE6⟩
        have hx' := Aside0.mk (show -41 ≤ x ∧ x ≤ 10 by simp at hx; omega)
        have hC6' := Aside0.mk hC6
        have hE6' := Aside0.mk ((Ex.of_on (S := fun b => b = q) hS5.out).trans hE6 fun _ _ h => h)
        have hg6 := Aside0.mk (blk_ex hE6'.out hg3.out (by have := hqw.out; have := hbl.out; omega))
        have hr6 := Aside0.mk (blk_ex hE6'.out hr3.out (by have := hqw.out; omega))
        have hO6 := Aside0.mk (own_ex hO3.out hE6'.out (fun i hi e => by have := own_base hO3.out i hi; have := hqw.out; omega))
        clear hC6 hE6 hx
        obtain ⟨gr', hgr', -, -, ⟨z, hz⟩, hfz, hset⟩ := OI.set0 hO6.out
        obtain rfl : gr = gr' := by injection hgr' with e; injection e
        clear hgr'
        have hset' := Aside0.mk (hset x)
        clear hset
        go_wp2
        refine ⟨hg6.out, ?_⟩
        refine Reg.tG ?_
        go_wp2
        refine ⟨hg6.out, ?_⟩
        refine Reg.tE ?_
        have hx6 := Aside0.mk (show (w6.setCell ⟨gr, 0, none⟩ (.int .i64 x)).heap[w.heap.size]? = _ from blk_far hr6.out (by show ¬ _; simp; have := hgr.out; omega) _)
        have hy6 := Aside0.mk (show (w6.setCell ⟨gr, 0, none⟩ (.int .i64 x)).heap[g3]? = _ from blk_far hg6.out (by show ¬ _; simp; have := hgr.out; omega) _)
        have hd0 := blk_cell hy6.out
        have hf0 := blk_frozen hy6.out
        have hd1 := blk_cell hx6.out
        have hf1 := blk_frozen hx6.out
        go_wp2
        refine bodyPost_ret (retF rfl rfl (g := w.heap.size) (blk_set (blk_set hx6.out 0 _) 1 _) rfl) rfl ?_
        have EX := Ex.set w6 ⟨gr, 0, none⟩ (.int .i64 x)
        have hb1 := hgr.out
        have hb2 := hqw.out
        have hb3 := hq0.out
        exact fact_end (zs := x :: ys) hqw.out hq0.out hset'.out (fun z hz => (List.mem_cons.1 hz).elim (fun e => by have := hx'.out; omega) (fun h => hI'.out z (List.mem_cons_of_mem _ h))) (by have := hf2'.out; simp at this ⊢; omega) (hC6'.out.ex EX (fun b hb => by have e' : b = gr := hb; omega)) ((hE3'.out.trans hE6'.out fun _ _ h => h).trans EX (fun i hi h => by have e' : i = gr := h; omega))
      · have b0 : (x == 0) = false := by simpa using hx0
        have b1 : (x == 1) = false := by simpa using hx1
        have b2 : (x == 2) = false := by simpa using hx2
        have hd0 := blk_cell hg3.out
        have hf0 := blk_frozen hg3.out
        have hd1 := blk_cell hr3.out
        have hf1 := blk_frozen hr3.out
        clear hx0 hx1 hx2
        go_wp2
        refine bodyPost_ret (retF rfl rfl (g := w.heap.size) (blk_set (blk_set hr3.out 0 _) 1 _) rfl) rfl ?_
        exact fact_end hqw.out hq0.out hO3.out hI'.out (by have := hf2'.out; omega) hC3'.out hE3'.out
end Go.Proofs.YtgemaohdlibboaaGreatDoor.H
/- Walks: the draw of any instance. What is told: sizes and ranges. No condition. -/
namespace Go.Proofs.YtgemaohdlibboaaGreatDoor.H
open Go Go.RowKit Go.Proofs.YtgemaohdlibboaaGreatDoorW.PrintWords Go.Proofs.YtgemaohdlibboaaGreatDoorW.PrintLast
open Go.Proofs.YtgemaohdlibboaaGreatDoor.Reg (On on_draw)
set_option maxHeartbeats 4000000
set_option maxRecDepth 100000
set_option linter.unusedVariables false
set_option linter.unusedSimpArgs false

/-- An own instance none of whose blocks is g. -/
structure IW (g lo : Nat) (w : World) (vr vf : Value) (rs : List Rel) (hs : List Hdr) (fs : List Fct) : Prop where
  r : OR w lo vr rs
  f : OH w lo vf hs
  s : Sep w lo hs fs
  nr : ∀ b, vr.ownBlock = some b → b ≠ g
  nf : ∀ b, vf.ownBlock = some b → b ≠ g
  ns : ∀ (i : Nat) (a : Hdr) (b : Nat), hs[i]? = some a → (hdV a).ownBlock = some b → b ≠ g
theorem IW.of {g lo lo' : Nat} {w : World} {v : Value} {rs : List Rel} {fs : List Fct} (h : OIn w lo' v rs fs) (hl : lo ≤ lo') (hg : w.heap.size ≤ g ∨ g < lo') : ∃ vr vf hs, v = .agg #[vr, vf] ∧ IW g lo w vr vf rs hs fs := by
  obtain ⟨vr, vf, hs, rfl, h0, h1, h2⟩ := h.out
  exact ⟨vr, vf, hs, rfl, own_lower h0 hl, own_lower h1 hl, h2.lower hl, fun b hb => by have := own_base h0 b hb; have := own_lt h0 b hb; omega,
    fun b hb => by have := own_base h1 b hb; have := own_lt h1 b hb; omega, fun i a b ha hb => by have := h2.lt ha hb; omega⟩
theorem IW.ex {g lo : Nat} {S : Nat → Prop} {W w : World} {vr vf : Value} {rs : List Rel} {hs : List Hdr} {fs : List Fct} (h : IW g lo W vr vf rs hs fs) (k : Ex S W w) (hS : ∀ b, S b → b < lo ∨ b = g) : IW g lo w vr vf rs hs fs :=
  ⟨own_ex h.r k (fun i hi e => by have := own_base h.r i hi; have := h.nr i hi; have := hS i e; omega),
   own_ex h.f k (fun i hi e => by have := own_base h.f i hi; have := h.nf i hi; have := hS i e; omega),
   h.s.ex k (fun i a b ha hb e => by have := (h.s.lt ha hb).1; have := h.ns i a b ha hb; have := hS b e; omega), h.nr, h.nf, h.ns⟩
theorem IW.on {g lo : Nat} {W w : World} {vr vf : Value} {rs : List Rel} {hs : List Hdr} {fs : List Fct} (h : IW g lo W vr vf rs hs fs) (k : On W w) : IW g lo w vr vf rs hs fs := h.ex (Ex.of_on (S := fun _ => False) k) fun _ h => h.elim
theorem IW.rs {g lo : Nat} {S : Nat → Prop} {w : World} {vr vf : Value} {rs : List Rel} {hs : List Hdr} {fs : List Fct} (h : IW g lo w vr vf rs hs fs) (hS : ∀ b, S b → b < lo ∨ b = g) : RS S w (.agg #[vr, vf]) rs fs := by
  obtain ⟨A0, c0, rfl, _⟩ := OR.rd h.r
  obtain ⟨A1, c1, rfl⟩ := own_slice h.f
  refine ⟨A0, c0, A1, c1, hs, by rw [h.s.len], fun w' k => ?_⟩
  have h' := h.ex k hS
  exact ⟨(OR.same h'.r).2, (OH.rh h'.f).2, h'.s.reads⟩
theorem RS.mono {S S' : Nat → Prop} {w : World} {v : Value} {rs : List Rel} {fs : List Fct} (h : RS S w v rs fs) (hs : ∀ b, S' b → S b) : RS S' w v rs fs := by
  obtain ⟨A0, c0, A1, c1, hs', e, h⟩ := h.out
  exact ⟨A0, c0, A1, c1, hs', e, fun w' k => h w' (k.mono hs)⟩
theorem Reads.one {w : World} {a : Hdr} {f : Fct} (h1 : a.1 = f.1) (h2 : a.2.2.1 = f.2.length) (h3 : Ints w a.2.1 a.2.2.2 f.2) : Reads w [a] [f] := ⟨rfl, fun i b g hb hg => by
  have hi : i = 0 := by have := (List.getElem?_eq_some_iff.1 hb).1; simp at this; omega
  subst hi
  simp at hb hg
  subst hb hg
  exact ⟨h1, h2, h3⟩⟩
theorem flat_set (rs : List Rel) (k : Nat) (hk : k < rs.length) (r : Rel) : ((((rs.flatMap encR).set (k * 3) (.string r.1)).set (k * 3 + 1) (.int .i64 r.2.1)).set (k * 3 + 2) (.bool r.2.2)) = (rs.set k r).flatMap encR := by
  have e : rs = rs.take k ++ rs[k] :: rs.drop (k + 1) := by rw [List.getElem_cons_drop, List.take_append_drop]
  have h1 : rs.flatMap encR = (rs.take k).flatMap encR ++ (Value.string rs[k].1 :: Value.int .i64 rs[k].2.1 :: Value.bool rs[k].2.2 :: (rs.drop (k + 1)).flatMap encR) := by
    conv => lhs; rw [e]
    rw [List.flatMap_append, List.flatMap_cons]
    rfl
  rw [h1, set3 (k * 3) (by rw [flat_len (enc := encR) (sz := 3) (fun _ => rfl), List.length_take]; omega), List.set_eq_take_append_cons_drop, if_pos hk, List.flatMap_append, List.flatMap_cons]
  rfl
/-- An element of a row of relations stored. -/
theorem OR.setAt {W : World} {lo : Nat} {A : Option Addr} {n c k : Nat} {rs : List Rel} (h : OR W lo (.slice A n c) rs) (hk : k < rs.length) : ∃ g, A = some ⟨g, 0, none⟩ ∧ (Value.slice A n c).ownBlock = some g ∧ (∃ z, W.cell? ⟨g, k * 3, none⟩ = some z) ∧ (∃ z, W.cell? ⟨g, k * 3 + 1, none⟩ = some z) ∧ (∃ z, W.cell? ⟨g, k * 3 + 2, none⟩ = some z) ∧ (∀ j, W.frozen? ⟨g, j, none⟩ = false) ∧
    ∀ r : Rel, OR (((W.setCell ⟨g, k * 3, none⟩ (.string r.1)).setCell ⟨g, k * 3 + 1, none⟩ (.int .i64 r.2.1)).setCell ⟨g, k * 3 + 2, none⟩ (.bool r.2.2)) lo (.slice A n c) (rs.set k r) := by
  have hn := (OR.same h).1
  rcases h.2 with ⟨h', hn0⟩ | ⟨g, cap, cur, h', hg, hh, hnc, hcm, hcs, htk⟩
  · omega
  · injection h' with e1 e2 e3
    subst e1 e2 e3
    refine ⟨g, rfl, rfl, own_some h (k * 3) (by omega), own_some h (k * 3 + 1) (by omega), own_some h (k * 3 + 2) (by omega), fun j => own_frozen h j, fun r => ?_⟩
    have := ((h.stored (k * 3) (.string r.1)).1.stored (k * 3 + 1) (.int .i64 r.2.1)).1.stored (k * 3 + 2) (.bool r.2.2) |>.1
    rw [flat_set rs k hk r] at this
    show World.ownsRow _ _ _ _ _ (rs.set k r).length _
    rw [List.length_set]
    exact this
section
variable {ops : Array Oper} {rest : List Oper} {o : Oper} {a : Act} {Q : Exit → Act → World → Prop} {W : World}
/-- A cut of relations: all but the first. -/
theorem slR (N : Tmp) {x y : Operand} {A : Option Addr} {n c k : Nat} (hk : k ≤ n) (hc : n ≤ c) (h : wpList Tryz.prog ops Q rest (a.put (some N) (.slice (if c = k then A else A.map (·.add (k * 3))) (n - k) (c - k))) W)
    (hop : o.op = .slice 22 x (some y) none none := by rfl) (hd : o.dst = some N := by rfl) (hg : o.guard = none := by rfl) (hx : a.eval x = .slice A n c := by rfl) (hy : a.eval y = .int .i64 (k : Int) := by rfl) : wpList Tryz.prog ops Q (o :: rest) a W := by
  obtain ⟨i0, hi0, _, hsz, _⟩ := info_parts infoR
  have hcut := cut_from (P := Tryz.prog) 22 95 .i64 Tryz.underlying22 hi0 3 hsz A n c (k : Int) (by omega) (by omega)
  refine wpList_plain hg fun K hK => ?_
  have hrun : (execOp a.eval o).run Tryz.prog W = .ok (.value (.slice (if c = k then A else A.map (·.add (k * 3))) (n - k) (c - k))) W := by
    unfold execOp
    simp only [hop, hx, hy, Option.map_some, Option.map_none]
    have := hcut W
    simp only [Int.toNat_natCast] at this
    go_simp
  unfold Oper.wp
  rw [hrun]
  refine hK _ _ ?_
  rw [hd]
  exact h
end
end Go.Proofs.YtgemaohdlibboaaGreatDoor.H
/- Walks: the draw of any instance. What is told: sizes and ranges. No condition. -/
namespace Go.Proofs.YtgemaohdlibboaaGreatDoor.H
open Go Go.RowKit Go.Proofs.YtgemaohdlibboaaGreatDoorW.PrintWords Go.Proofs.YtgemaohdlibboaaGreatDoorW.PrintLast
open Go.Proofs.YtgemaohdlibboaaGreatDoor.Reg (On on_draw)
set_option maxHeartbeats 4000000
set_option maxRecDepth 100000
set_option linter.unusedVariables false
set_option linter.unusedSimpArgs false

end Go.Proofs.YtgemaohdlibboaaGreatDoor.H
/- Walks: relations written by the program. No condition. -/
namespace Go.Proofs.YtgemaohdlibboaaGreatDoor.H
open Go Go.RowKit Go.Proofs.YtgemaohdlibboaaGreatDoorW.PrintWords Go.Proofs.YtgemaohdlibboaaGreatDoorW.PrintLast
open Go.Proofs.YtgemaohdlibboaaGreatDoor.Reg (On on_draw)
set_option maxHeartbeats 4000000
set_option maxRecDepth 100000
set_option linter.unusedVariables false
set_option linter.unusedSimpArgs false

theorem relsL_take (rs : List Rel) (k : Nat) (h : k < rs.length) : (rs.take (k + 1)).map relL = (rs.take k).map relL ++ [relL rs[k]] := by
  rw [List.take_succ_eq_append_getElem h, List.map_append]; rfl
theorem iFormatRelations_calls (w : World) (A : Option Addr) (c : Nat) (rs : List Rel) (h : Rels w A c rs) : Calls Tryz.prog 38 #[.slice A rs.length c] w fun e w' => e = .returned (.string (strB (fmtR rs))) ∧ On w w' := by
  have hmax := h.max
  have h' := Aside0.mk h
  clear h
  cases ho : okRels rs with
  | false =>
    have ho' := Aside0.mk ho
    clear ho
    go_enter Tryz.func38, Tryz.ntmps38
    go_wp2_with (go_at_call 49; refine (iAreValidRelations_calls w A c rs h'.out).mono ?_; rintro e w1 ⟨rfl, hb1⟩; rw [ho'.out])
    go_ret
    exact ⟨by unfold fmtR; rw [if_neg (by rw [ho'.out]; simp)]; rfl, hb1⟩
  | true =>
    have ho' := Aside0.mk ho
    have hk6 := Aside0.mk (show rs.length ≤ 6 by simp only [okRels, Bool.and_eq_true, decide_eq_true_eq] at ho; exact ho.2)
    clear ho
    go_enter Tryz.func38, Tryz.ntmps38
    go_wp2_with (go_at_call 49; refine (iAreValidRelations_calls w A c rs h'.out).mono ?_; rintro e w1 ⟨rfl, hb1⟩; rw [ho'.out]; have hb1' := Aside0.mk hb1; clear hb1)
    go_loopw [3, 13] (fun v3 v13 wr => ∃ k : Nat, k ≤ rs.length ∧ v13 = .int .i64 k ∧ OSt wr w.heap.size v3 ((rs.take k).map relL) ∧ On w wr) (fun _ v13 _ => rs.length - (intOf v13).toNat)
    case atStart => exact ⟨0, Nat.zero_le _, rfl, ownS0 rfl hb1'.out.size, hb1'.out.trans (On.alloc (On.refl _) _)⟩
    case round =>
      obtain ⟨k, hk, rfl, hO, hB⟩ := hrel
      have hB' := Aside0.mk hB
      obtain ⟨ls, hls⟩ : ∃ ls, (rs.take k).map relL = ls := ⟨_, rfl⟩
      rw [hls] at hO
      have hls' := Aside0.mk hls
      have hO' := Aside0.mk hO
      clear hB hO hls
      by_cases hlt : k < rs.length
      · obtain ⟨ad, rfl, x0, x1, x2⟩ := (h'.out.on hB'.out).at k hlt
        have hk' := Aside0.mk hlt
        have hstep := Aside0.mk (relsL_take rs k hlt)
        obtain ⟨b, e1, e2, e3, e4, e5⟩ := relL_parts (okRels_mem ho'.out rs[k] (List.getElem_mem hlt))
        obtain ⟨r, hr⟩ : ∃ r : Rel, rs[k] = r := ⟨_, rfl⟩
        rw [hr] at x0 x1 x2 e1 e2 e3 e4 hstep e5
        clear hr
        obtain ⟨nm, a, src⟩ := r
        simp only at x0 x1 x2 e1 e2 e3 e4 hstep e5
        subst e1
        have ha' := Aside0.mk (And.intro e2 e3)
        have hia := Aside0.mk e5
        have hrl := Aside0.mk e4
        clear e2 e3 e4 e5
        have hfill := alloc_fill3 wr
        cases src with
        | true =>
          have c3 : (⟨#[43]⟩ : ByteArray) ++ strB [b] = strB [43, b] := by rw [show (⟨#[43]⟩ : ByteArray) = strB [43] from rfl, strB_append]; rfl
          have z3 : (9223372036854775807 < 1 + (strB [b]).size) = False := eq_false (by rw [strB_size]; simp)
          have c4 := strB_append [43, b] (Lib.itoa a)
          have z4 := szOk (a := [43, b]) (b := Lib.itoa a) (by have := hia.out; simp; omega)
          obtain ⟨y, hy⟩ : ∃ y, [43, b] ++ Lib.itoa a = y := ⟨_, rfl⟩
          have hyr := Aside0.mk (show relL (strB [b], a, true) = y by rw [hrl.out, ← hy]; rfl)
          rw [hy] at c4
          clear hy
          go_wp2
          have hbx := Aside0.mk (show (wr.alloc (.cells #[.string (strB [b]), .int .i64 a, .bool true] 95 (0, 0))).heap[wr.heap.size]? = some _ from loc_new wr _ _)
          have hc0 := blk_cell hbx.out
          have hBx := Aside0.mk (hB'.out.trans (On.alloc (On.refl _) (.cells #[.string (strB [b]), .int .i64 a, .bool true] 95 (0, 0))))
          clear hfill
          refine Reg.region [(0,.P),(1,.L),(2,.L),(3,.L),(4,.L),(5,.L),(6,.L),(7,.C),(8,.L)] [9,10,11] (by kernel_rfl) (by kernel_rfl) ?_
          repeat first | refine sP ?_ | refine sS ?_ | refine sA ?_ | refine sL ?_ | refine sQ ?_ | refine sO ?_
          refine callC (.string (strB (Lib.itoa a))) Tryz.func107 (fun w' hS => ?_) ?_
          focus exact iFormatInt_calls w' a (by have := ha'.out; omega) (by have := ha'.out; omega)
          repeat first | refine sP ?_ | refine sS ?_ | refine sA ?_ | refine sL ?_ | refine sQ ?_ | refine sO ?_
          refine Reg.tail_ fun w2 hS => ?_
          clear hc0
          refine litS1 28 (y := y) ?_
          have hOA := Aside0.mk (own_ex hO'.out (Ex.of_on (S := fun _ => False) ((On.alloc (On.refl _) (.cells #[.string (strB [b]), .int .i64 a, .bool true] 95 (0, 0))).trans (hS.trans (On.alloc (On.refl w2) (.cells #[.string (strB y)] 9 (0, 0)))))) (fun _ _ h => h))
          have hBA := Aside0.mk (hBx.out.trans (hS.trans (On.alloc (On.refl w2) (.cells #[.string (strB y)] 9 (0, 0)))))
          obtain ⟨ys, hys⟩ : ∃ ys, ls ++ [y] = ys := ⟨_, rfl⟩
          have hys' := Aside0.mk hys
          refine apS1 29 hys hOA.out (lit_S w2 y) hBA.out.size (by have := hk6.out; rw [← hls'.out]; simp; omega) fun v3 w3 hO3 hg3 => ?_
          have hO3' := Aside0.mk hO3
          have hB3 := Aside0.mk (Ex.on hBA.out (Ex.of_grown hg3) (fun i e => own_base hO'.out i e.symm))
          clear hys hO3 hg3
          go_wp2
          refine ⟨⟨k + 1, by have := hk'.out; omega, by go_num, ?_, hB3.out⟩, by simp [intOf]; have := hk'.out; omega⟩
          rw [hstep.out, hls'.out, hyr.out, hys'.out]; exact hO3'.out
        | false =>
          have c3 : (⟨#[]⟩ : ByteArray) ++ strB [b] = strB [b] := by rw [show (⟨#[]⟩ : ByteArray) = strB [] from rfl, strB_append]; rfl
          have z3 : (9223372036854775807 < (strB [b]).size) = False := eq_false (by rw [strB_size]; simp)
          have c4 := strB_append [b] (Lib.itoa a)
          have z4 := szOk (a := [b]) (b := Lib.itoa a) (by have := hia.out; simp; omega)
          obtain ⟨y, hy⟩ : ∃ y, [b] ++ Lib.itoa a = y := ⟨_, rfl⟩
          have hyr := Aside0.mk (show relL (strB [b], a, false) = y by rw [hrl.out, ← hy]; rfl)
          rw [hy] at c4
          clear hy
          go_wp2
          have hbx := Aside0.mk (show (wr.alloc (.cells #[.string (strB [b]), .int .i64 a, .bool false] 95 (0, 0))).heap[wr.heap.size]? = some _ from loc_new wr _ _)
          have hc0 := blk_cell hbx.out
          have hBx := Aside0.mk (hB'.out.trans (On.alloc (On.refl _) (.cells #[.string (strB [b]), .int .i64 a, .bool false] 95 (0, 0))))
          clear hfill
          refine Reg.region [(0,.P),(1,.L),(2,.L),(3,.L),(4,.L),(5,.L),(6,.L),(7,.C),(8,.L)] [9,10,11] (by kernel_rfl) (by kernel_rfl) ?_
          repeat first | refine sP ?_ | refine sS ?_ | refine sA ?_ | refine sL ?_ | refine sQ ?_ | refine sO ?_
          refine callC (.string (strB (Lib.itoa a))) Tryz.func107 (fun w' hS => ?_) ?_
          focus exact iFormatInt_calls w' a (by have := ha'.out; omega) (by have := ha'.out; omega)
          repeat first | refine sP ?_ | refine sS ?_ | refine sA ?_ | refine sL ?_ | refine sQ ?_ | refine sO ?_
          refine Reg.tail_ fun w2 hS => ?_
          clear hc0
          refine litS1 28 (y := y) ?_
          have hOA := Aside0.mk (own_ex hO'.out (Ex.of_on (S := fun _ => False) ((On.alloc (On.refl _) (.cells #[.string (strB [b]), .int .i64 a, .bool false] 95 (0, 0))).trans (hS.trans (On.alloc (On.refl w2) (.cells #[.string (strB y)] 9 (0, 0)))))) (fun _ _ h => h))
          have hBA := Aside0.mk (hBx.out.trans (hS.trans (On.alloc (On.refl w2) (.cells #[.string (strB y)] 9 (0, 0)))))
          obtain ⟨ys, hys⟩ : ∃ ys, ls ++ [y] = ys := ⟨_, rfl⟩
          have hys' := Aside0.mk hys
          refine apS1 29 hys hOA.out (lit_S w2 y) hBA.out.size (by have := hk6.out; rw [← hls'.out]; simp; omega) fun v3 w3 hO3 hg3 => ?_
          have hO3' := Aside0.mk hO3
          have hB3 := Aside0.mk (Ex.on hBA.out (Ex.of_grown hg3) (fun i e => own_base hO'.out i e.symm))
          clear hys hO3 hg3
          go_wp2
          refine ⟨⟨k + 1, by have := hk'.out; omega, by go_num, ?_, hB3.out⟩, by simp [intOf]; have := hk'.out; omega⟩
          rw [hstep.out, hls'.out, hyr.out, hys'.out]; exact hO3'.out
      · have e1 : rs.take k = rs := List.take_of_length_le (by omega)
        have hls2 := Aside0.mk (show rs.map relL = ls by rw [← hls'.out, e1])
        clear e1
        obtain ⟨Aq, cq, rfl⟩ := own_slice hO'.out
        have hSt' := Aside0.mk (OSt.same hO'.out).2
        have hjl := Aside0.mk (show (Lib.join ls [32]).length ≤ 100 by rw [← hls2.out]; have := txtR_len ho'.out rs.length; rwa [txtR_all rs _ (Nat.le_refl _)] at this)
        have hll := Aside0.mk (show ls.length ≤ 1000000 by rw [← hls2.out]; have := hk6.out; simp; omega)
        go_wp2_with (go_at_call 65; refine (Join_calls wr Aq cq ls [32] hSt'.out hll.out (by have := hjl.out; omega)).mono ?_; rintro e w2 ⟨rfl, hb2⟩)
        go_ret
        exact ⟨by unfold fmtR; rw [if_pos ho'.out, hls2.out]; rfl, hB'.out.trans hb2⟩
end Go.Proofs.YtgemaohdlibboaaGreatDoor.H
/- Walks: facts written, on both sides. No condition. -/
namespace Go.Proofs.YtgemaohdlibboaaGreatDoor.H
open Go Go.RowKit Go.Proofs.YtgemaohdlibboaaGreatDoorW.PrintWords Go.Proofs.YtgemaohdlibboaaGreatDoorW.PrintLast
open Go.Proofs.YtgemaohdlibboaaGreatDoor.Reg (On on_draw)
set_option maxHeartbeats 4000000
set_option maxRecDepth 100000
set_option linter.unusedVariables false
set_option linter.unusedSimpArgs false

def txtF (vs : List Int) (k : Nat) : List UInt8 := Lib.join ((vs.take k).map fvL) [44]
theorem txtF_succ (vs : List Int) (k : Nat) (h : k < vs.length) : txtF vs (k + 1) = (if k = 0 then [] else txtF vs k ++ [44]) ++ fvL vs[k] := by
  unfold txtF
  rw [List.take_succ_eq_append_getElem h, List.map_append, List.map_cons, List.map_nil, join_snoc, List.length_map, List.length_take, Nat.min_eq_left (by omega)]
  by_cases c : k = 0
  · rw [if_pos c, if_pos c]; rfl
  · rw [if_neg c, if_neg c]
theorem txtF_len (vs : List Int) (k : Nat) (h : vs.length ≤ 3) : (txtF vs k).length ≤ 20 := by
  have := join_len [44] 3 _ ((vs.take k).map fvL) rfl (fun x hx => by
    obtain ⟨v, hv, rfl⟩ := List.mem_map.1 hx
    exact fvL_len v)
  rw [List.length_map, List.length_take] at this
  unfold txtF
  simp at this ⊢
  omega
theorem txtF_all (vs : List Int) (k : Nat) (h : vs.length ≤ k) : txtF vs k = Lib.join (vs.map fvL) [44] := by unfold txtF; rw [List.take_of_length_le h]
theorem fmtF_cat {rs : List Rel} {f : Fct} {b : UInt8} (h : okFact rs f = true) (hb : nameL rs f.1 = [b]) : fmtF rs f = ([b, 40] ++ Lib.join (f.2.map fvL) [44]) ++ [41] := by
  unfold fmtF; rw [if_pos h, hb]; simp
theorem fvs_take (vs : List Int) (k : Nat) (h : k < vs.length) : (vs.take (k + 1)).map fvL = (vs.take k).map fvL ++ [fvL vs[k]] := by
  rw [List.take_succ_eq_append_getElem h, List.map_append]; rfl
theorem sFormatFact_calls (w : World) (A : Option Addr) (c : Nat) (rs : List Rel) (h : Rels w A c rs) (A1 c1) (f : Fct) (h1 : Ints w A1 c1 f.2) : Calls Tryz.prog 114 #[.slice A rs.length c, .agg #[.int .i64 f.1, .slice A1 f.2.length c1]] w fun e w' => e = .returned (.string (strB (fmtF rs f))) ∧ On w w' := by
  have h' := Aside0.mk h
  have h1' := Aside0.mk h1
  clear h h1
  cases ho : okFact rs f with
  | false =>
    have hb := Aside0.mk (On.alloc (On.refl w) (.cells #[.int .i64 f.1, .slice A1 f.2.length c1] 60 (0, 0)))
    have ho' := Aside0.mk ho
    clear ho
    go_enter Tryz.func114, Tryz.ntmps114
    go_wp2_with (go_at_call 47; refine (IsValidFact_calls _ A c rs A1 c1 f (h'.out.on hb.out) (h1'.out.on hb.out)).mono ?_; rintro e w1 ⟨rfl, hb1⟩; rw [ho'.out])
    go_ret
    exact ⟨by unfold fmtF; rw [if_neg (by rw [ho'.out]; simp)]; rfl, hb.out.trans hb1⟩
  | true =>
    have ho' := Aside0.mk ho
    obtain ⟨rn, hrn, e1, e2, ⟨b, e3, -, -⟩, -, hvs⟩ := okFact_parts ho
    have hcat := Aside0.mk (fmtF_cat ho (e2.trans e3))
    have hl3 := Aside0.mk (okFact_len ho)
    obtain ⟨i, vs⟩ := f
    simp only at e1 hvs hcat hl3
    subst e1
    have hrn' := Aside0.mk hrn
    have hnm := Aside0.mk (show rs[rn].1 = strB [b] by rw [← e3, strB_self])
    have hvs' := Aside0.mk hvs
    have hbx := Aside0.mk (loc1 w #[.int .i64 (rn : Int), .slice A1 vs.length c1] 60)
    have hB0 := Aside0.mk (On.alloc (On.refl w) (.cells #[.int .i64 (rn : Int), .slice A1 vs.length c1] 60 (0, 0)))
    obtain ⟨w0, hw0⟩ : ∃ w0, w.alloc (.cells #[.int .i64 (rn : Int), .slice A1 vs.length c1] 60 (0, 0)) = w0 := ⟨_, rfl⟩
    clear ho e2 e3 hvs hw0
    have hmx := h1'.out.max
    go_enter Tryz.func114, Tryz.ntmps114
    go_wp2_with (go_at_call 47; refine Stop.out ?_)
    refine ⟨(IsValidFact_calls _ A c rs A1 c1 ((rn : Int), vs) (h'.out.on hB0.out) (h1'.out.on hB0.out)).mono ?_⟩
    rintro e w1 ⟨rfl, hb1⟩
    rw [ho'.out]
    have hB1 := Aside0.mk (hB0.out.trans hb1)
    have hbx1 := Aside0.mk (blk_below hbx.out.1 hb1)
    have hq0 := blk_cell hbx1.out
    obtain ⟨ad, hA, x0, -, -⟩ := (h'.out.on hB1.out).at rn hrn'.out
    subst hA
    rw [hnm.out] at x0
    have hrb := hrn'.out
    have c1' := cat1 [b] 40
    have z1' := szOk1 (a := [b]) (by simp)
    clear hb1
    go_wp2
    clear hq0 x0 c1' z1' hrb
    go_loopw [5, 6] (fun v5 v6 wr => ∃ (k : Nat) (s : List UInt8), k ≤ vs.length ∧ v5 = .string (strB s) ∧ v6 = .int .i64 k ∧ Aside0 (s = [b, 40] ++ txtF vs k) ∧ On w1 wr) (fun _ v6 _ => vs.length - (intOf v6).toNat)
    case atStart => exact ⟨0, _, Nat.zero_le _, rfl, rfl, ⟨by unfold txtF; simp [join_nil']⟩, On.refl _⟩
    case round =>
      obtain ⟨k, s, hk, rfl, rfl, hs, hB⟩ := hrel
      have hB' := Aside0.mk hB
      have hsl := Aside0.mk (show s.length ≤ 30 by rw [hs.out]; have := txtF_len vs k hl3.out; simp; omega)
      have hbxr := Aside0.mk (blk_below hbx1.out hB)
      have hq0 := blk_cell hbxr.out
      clear hB
      by_cases hlt : k < vs.length
      · obtain ⟨ad2, rfl, x2⟩ := (h1'.out.on (hB1.out.trans hB'.out)).at k hlt
        have hk' := Aside0.mk hlt
        have hstep := Aside0.mk (txtF_succ vs k hlt)
        have hbd := Aside0.mk (h1'.out.bd k hlt)
        obtain ⟨v, hv⟩ : ∃ v, vs[k] = v := ⟨_, rfl⟩
        rw [hv] at x2 hstep hbd
        clear hv
        have hs' := Aside0.mk hs.out
        clear hs
        have hfl := Aside0.mk (fvL_len v)
        by_cases hk0 : 0 < k
        · have hkb : decide ((0 : Int) < (k : Int)) = true := decide_eq_true (by omega)
          have hkn : decide (0 < k) = true := decide_eq_true hk0
          have c2 := cat1 s 44
          have z2 := szOk1 (a := s) (by have := hsl.out; omega)
          obtain ⟨t, ht⟩ : ∃ t, s ++ [44] = t := ⟨_, rfl⟩
          have htl := Aside0.mk (show t.length ≤ 31 by rw [← ht]; have := hsl.out; simp; omega)
          have hfin := Aside0.mk (show t ++ fvL v = [b, 40] ++ txtF vs (k + 1) by rw [hstep.out, if_neg (by omega), ← ht, hs'.out]; simp)
          rw [ht] at c2
          clear ht hk0
          have c3 := strB_append t (fvL v)
          have z3 := szOk (a := t) (b := fvL v) (by have := htl.out; have := hfl.out; omega)
          go_wp2_with (go_at_call 96; refine (sFormatValue_calls _ v hbd.out).mono ?_; rintro e w3 ⟨rfl, hb3⟩)
          exact ⟨⟨k + 1, _, by have := hk'.out; omega, rfl, by go_num, ⟨hfin.out⟩, hB'.out.trans hb3⟩, by simp [intOf]; have := hk'.out; omega⟩
        · have hkb : decide ((0 : Int) < (k : Int)) = false := decide_eq_false (by omega)
          have hkn : decide (0 < k) = false := decide_eq_false hk0
          have hfin := Aside0.mk (show s ++ fvL v = [b, 40] ++ txtF vs (k + 1) by rw [hstep.out, if_pos (by omega), hs'.out, show k = 0 by omega]; simp [txtF, join_nil'])
          clear hk0
          have c3 := strB_append s (fvL v)
          have z3 := szOk (a := s) (b := fvL v) (by have := hsl.out; have := hfl.out; omega)
          go_wp2_with (go_at_call 96; refine (sFormatValue_calls _ v hbd.out).mono ?_; rintro e w3 ⟨rfl, hb3⟩)
          exact ⟨⟨k + 1, _, by have := hk'.out; omega, rfl, by go_num, ⟨hfin.out⟩, hB'.out.trans hb3⟩, by simp [intOf]; have := hk'.out; omega⟩
      · have c4 := cat1 s 41
        have z4 := szOk1 (a := s) (by have := hsl.out; omega)
        have hfin := Aside0.mk (show s ++ [41] = fmtF rs ((rn : Int), vs) by rw [hcat.out, hs.out, txtF_all vs k (by omega)])
        clear hs
        go_wp2
        go_ret
        exact ⟨by rw [← hfin.out]; rfl, hB1.out.trans hB'.out⟩
theorem iFormatFact_calls (w : World) (A : Option Addr) (c : Nat) (rs : List Rel) (h : Rels w A c rs) (A1 c1) (f : Fct) (h1 : Ints w A1 c1 f.2) : Calls Tryz.prog 44 #[.slice A rs.length c, .agg #[.int .i64 f.1, .slice A1 f.2.length c1]] w fun e w' => e = .returned (.string (strB (fmtF rs f))) ∧ On w w' := by
  have h' := Aside0.mk h
  have h1' := Aside0.mk h1
  clear h h1
  cases ho : okFact rs f with
  | false =>
    have hb := Aside0.mk (On.alloc (On.refl w) (.cells #[.int .i64 f.1, .slice A1 f.2.length c1] 60 (0, 0)))
    have ho' := Aside0.mk ho
    clear ho
    go_enter Tryz.func44, Tryz.ntmps44
    go_wp2_with (go_at_call 50; refine (iIsValidFact_calls _ A c rs A1 c1 f (h'.out.on hb.out) (h1'.out.on hb.out)).mono ?_; rintro e w1 ⟨rfl, hb1⟩; rw [ho'.out])
    go_ret
    exact ⟨by unfold fmtF; rw [if_neg (by rw [ho'.out]; simp)]; rfl, hb.out.trans hb1⟩
  | true =>
    have ho' := Aside0.mk ho
    obtain ⟨rn, hrn, e1, e2, ⟨b, e3, -, -⟩, -, hvs⟩ := okFact_parts ho
    have hcat := Aside0.mk (fmtF_cat ho (e2.trans e3))
    have hl3 := Aside0.mk (okFact_len ho)
    obtain ⟨i, vs⟩ := f
    simp only at e1 hvs hcat hl3
    subst e1
    have hrn' := Aside0.mk hrn
    have hnm := Aside0.mk (show rs[rn].1 = strB [b] by rw [← e3, strB_self])
    have hvs' := Aside0.mk hvs
    have hbx := Aside0.mk (loc1 w #[.int .i64 (rn : Int), .slice A1 vs.length c1] 60)
    have hB0 := Aside0.mk (On.alloc (On.refl w) (.cells #[.int .i64 (rn : Int), .slice A1 vs.length c1] 60 (0, 0)))
    obtain ⟨w0, hw0⟩ : ∃ w0, w.alloc (.cells #[.int .i64 (rn : Int), .slice A1 vs.length c1] 60 (0, 0)) = w0 := ⟨_, rfl⟩
    clear ho e2 e3 hvs hw0
    have hmx := h1'.out.max
    go_enter Tryz.func44, Tryz.ntmps44
    go_wp2_with (go_at_call 50; refine Stop.out ?_)
    refine ⟨(iIsValidFact_calls _ A c rs A1 c1 ((rn : Int), vs) (h'.out.on hB0.out) (h1'.out.on hB0.out)).mono ?_⟩
    rintro e w1 ⟨rfl, hb1⟩
    rw [ho'.out]
    have hB1 := Aside0.mk (hB0.out.trans hb1)
    have hbx1 := Aside0.mk (blk_below hbx.out.1 hb1)
    have hq0 := blk_cell (blk_below hbx1.out (On.alloc (On.refl w1) (.cells #[] 9 (0, 0))))
    clear hb1
    go_wp2
    clear hq0
    go_loopw [5, 16] (fun v5 v16 wr => ∃ k : Nat, k ≤ vs.length ∧ v16 = .int .i64 k ∧ OSt wr w1.heap.size v5 ((vs.take k).map fvL) ∧ On w1 wr) (fun _ v16 _ => vs.length - (intOf v16).toNat)
    case atStart => exact ⟨0, Nat.zero_le _, rfl, ownS0 rfl (Nat.le_refl _), On.alloc (On.refl _) _⟩
    case round =>
      obtain ⟨k, hk, rfl, hO, hB⟩ := hrel
      have hB' := Aside0.mk hB
      obtain ⟨ls, hls⟩ : ∃ ls, (vs.take k).map fvL = ls := ⟨_, rfl⟩
      rw [hls] at hO
      have hls' := Aside0.mk hls
      have hO' := Aside0.mk hO
      clear hB hO hls
      by_cases hlt : k < vs.length
      · obtain ⟨ad2, rfl, x2⟩ := (h1'.out.on (hB1.out.trans hB'.out)).at k hlt
        have hk' := Aside0.mk hlt
        have hstep := Aside0.mk (fvs_take vs k hlt)
        have hbd := Aside0.mk (h1'.out.bd k hlt)
        obtain ⟨v, hv⟩ : ∃ v, vs[k] = v := ⟨_, rfl⟩
        rw [hv] at x2 hstep hbd
        clear hv
        go_wp2_with (go_at_call 95; refine Stop.out ?_)
        refine ⟨(iFormatValue_calls _ v hbd.out).mono ?_⟩
        rintro e w2 ⟨rfl, hb3⟩
        have hb3' := Aside0.mk hb3
        clear hb3 x2
        go_wp2_with (refine gate 23 ?_)
        refine ⟨litS1 23 (y := fvL v) ?_⟩
        have hOA := Aside0.mk (own_ex hO'.out (Ex.of_on (S := fun _ => False) (hb3'.out.trans (On.alloc (On.refl w2) (.cells #[.string (strB (fvL v))] 9 (0, 0))))) (fun _ _ h => h))
        have hBA := Aside0.mk (hB'.out.trans (hb3'.out.trans (On.alloc (On.refl w2) (.cells #[.string (strB (fvL v))] 9 (0, 0)))))
        obtain ⟨ys, hys⟩ : ∃ ys, ls ++ [fvL v] = ys := ⟨_, rfl⟩
        have hys' := Aside0.mk hys
        refine apS1 24 hys hOA.out (lit_S w2 (fvL v)) hBA.out.size (by have := hl3.out; rw [← hls'.out]; simp; omega) fun v3 w3 hO3 hg3 => ?_
        have hO3' := Aside0.mk hO3
        have hB3 := Aside0.mk (Ex.on hBA.out (Ex.of_grown hg3) (fun i e => own_base hO'.out i e.symm))
        clear hys hO3 hg3
        go_wp2
        refine ⟨⟨k + 1, by have := hk'.out; omega, by go_num, ?_, hB3.out⟩, by simp [intOf]; have := hk'.out; omega⟩
        rw [hstep.out, hls'.out, hys'.out]; exact hO3'.out
      · have e1 : vs.take k = vs := List.take_of_length_le (by omega)
        have hls2 := Aside0.mk (show vs.map fvL = ls by rw [← hls'.out, e1])
        clear e1
        obtain ⟨Aq, cq, rfl⟩ := own_slice hO'.out
        have hSt' := Aside0.mk (OSt.same hO'.out).2
        have hjl := Aside0.mk (show (Lib.join ls [44]).length ≤ 20 by rw [← hls2.out]; have := txtF_len vs vs.length hl3.out; rwa [txtF_all vs _ (Nat.le_refl _)] at this)
        have hll := Aside0.mk (show ls.length ≤ 1000000 by rw [← hls2.out]; have := hl3.out; simp; omega)
        have hbxr := Aside0.mk (blk_below hbx1.out hB'.out)
        have hq0 := blk_cell hbxr.out
        obtain ⟨ad, hA, x0, -, -⟩ := (h'.out.on (hB1.out.trans hB'.out)).at rn hrn'.out
        subst hA
        rw [hnm.out] at x0
        have hrb := hrn'.out
        have c1' := cat1 [b] 40
        have z1' := szOk1 (a := [b]) (by simp)
        obtain ⟨j, hj⟩ : ∃ j, Lib.join ls [44] = j := ⟨_, rfl⟩
        have hj' := Aside0.mk hj
        rw [hj] at hjl
        have c5 := strB_append [b, 40] j
        have z5 := szOk (a := [b, 40]) (b := j) (by have := hjl.out; simp; omega)
        obtain ⟨x, hx⟩ : ∃ x, [b, 40] ++ j = x := ⟨_, rfl⟩
        have hxl := Aside0.mk (show x.length ≤ 30 by rw [← hx]; have := hjl.out; simp; omega)
        rw [hx] at c5
        have hfin := Aside0.mk (show x ++ [41] = fmtF rs ((rn : Int), vs) by rw [hcat.out, ← hx, ← hj, hls2.out])
        have c6 := cat1 x 41
        have z6 := szOk1 (a := x) (by have := hxl.out; omega)
        clear hj hx
        go_wp2
        refine Reg.region [(0,.L),(1,.L),(2,.L),(3,.L),(4,.L),(5,.L),(6,.L),(7,.L),(8,.C),(9,.L),(10,.L)] [11] (by kernel_rfl) (by kernel_rfl) ?_
        repeat first | refine sP ?_ | refine sS ?_ | refine sA ?_ | refine sL ?_ | refine sQ ?_ | refine sO ?_
        refine callC (.string (strB j)) Tryz.func65 (fun w' hS => ?_) ?_
        focus (have h := Join_calls w' Aq cq ls [44] (hSt'.out.on hS) hll.out (by rw [hj'.out]; have := hjl.out; omega); rw [hj'.out] at h; exact h)
        repeat first | refine sP ?_ | refine sS ?_ | refine sA ?_ | refine sL ?_ | refine sQ ?_ | refine sO ?_
        refine Reg.tail_ fun w2 hS => ?_
        go_wp2
        go_ret
        exact ⟨by rw [← hfin.out]; rfl, (hB1.out.trans hB'.out).trans hS⟩
end Go.Proofs.YtgemaohdlibboaaGreatDoor.H
/- Sorted, each once: plain. No condition. -/
namespace Go.Proofs.YtgemaohdlibboaaGreatDoor.H
open Go Go.RowKit Go.Proofs.YtgemaohdlibboaaGreatDoorW.PrintWords Go.Proofs.YtgemaohdlibboaaGreatDoorW.PrintLast
open Go.Proofs.YtgemaohdlibboaaGreatDoor.Reg (On on_draw)
set_option maxHeartbeats 1000000
set_option linter.unusedVariables false
set_option linter.unusedSimpArgs false

end Go.Proofs.YtgemaohdlibboaaGreatDoor.H
/- Walks: the program's own nulls; the library's sorting over its shelf. No condition. -/
namespace Go.Proofs.YtgemaohdlibboaaGreatDoor.H
open Go Go.RowKit Go.Proofs.YtgemaohdlibboaaGreatDoorW.PrintWords Go.Proofs.YtgemaohdlibboaaGreatDoorW.PrintLast
open Go.Proofs.YtgemaohdlibboaaGreatDoor.Reg (On on_draw)
set_option maxHeartbeats 1000000
set_option maxRecDepth 100000
set_option linter.unusedVariables false
set_option linter.unusedSimpArgs false

end Go.Proofs.YtgemaohdlibboaaGreatDoor.H
/- Walk: the program's own valid instances. No condition. -/
namespace Go.Proofs.YtgemaohdlibboaaGreatDoor.H
open Go Go.RowKit Go.Proofs.YtgemaohdlibboaaGreatDoorW.PrintWords Go.Proofs.YtgemaohdlibboaaGreatDoorW.PrintLast
open Go.Proofs.YtgemaohdlibboaaGreatDoor.Reg (On on_draw)
set_option maxHeartbeats 8000000
set_option maxRecDepth 100000
set_option linter.unusedVariables false
set_option linter.unusedSimpArgs false

end Go.Proofs.YtgemaohdlibboaaGreatDoor.H
/- Walks: instances written, on both sides. No condition. -/
namespace Go.Proofs.YtgemaohdlibboaaGreatDoor.H
open Go Go.RowKit Go.Proofs.YtgemaohdlibboaaGreatDoorW.PrintWords Go.Proofs.YtgemaohdlibboaaGreatDoorW.PrintLast
open Go.Proofs.YtgemaohdlibboaaGreatDoor.Reg (On on_draw)
set_option maxHeartbeats 4000000
set_option maxRecDepth 100000
set_option linter.unusedVariables false
set_option linter.unusedSimpArgs false

theorem fmtF_len (rs : List Rel) (f : Fct) : (fmtF rs f).length ≤ 20 := by
  cases h : okFact rs f with
  | false => unfold fmtF; rw [h]; simp
  | true =>
    obtain ⟨b, e, -, -, -⟩ := fmtF_ok h
    have h1 := txtF_len f.2 f.2.length (okFact_len h)
    have h2 := join_len [44] 3 _ (f.2.map fvL) rfl (fun x hx => by
      obtain ⟨v, hv, rfl⟩ := List.mem_map.1 hx
      exact fvL_len v)
    have h3 := okFact_len h
    rw [e]
    rw [List.length_map] at h2
    simp at h2 ⊢
    omega
theorem fmtR_len (rs : List Rel) : (fmtR rs).length ≤ 100 := by
  unfold fmtR
  split
  · rename_i h
    have := txtR_len h rs.length
    rwa [txtR_all rs _ (Nat.le_refl _)] at this
  · simp
end Go.Proofs.YtgemaohdlibboaaGreatDoor.H
/- Walks: the draws of instances and of their texts. What is told: that they can be read; sizes. No condition. -/
namespace Go.Proofs.YtgemaohdlibboaaGreatDoor.H
open Go Go.RowKit Go.Proofs.YtgemaohdlibboaaGreatDoorW.PrintWords Go.Proofs.YtgemaohdlibboaaGreatDoorW.PrintLast
open Go.Proofs.YtgemaohdlibboaaGreatDoor.Reg (On on_draw)
set_option maxHeartbeats 8000000
set_option maxRecDepth 100000
set_option linter.unusedVariables false
set_option linter.unusedSimpArgs false

section
variable {fn : Func} {p u : Tmp} {tmps : Array Value} {w : World} {g g' : Nat} {t t' : TypeId} {cs cs' : Array Value} {fr fr' : Nat × Nat}
end
end Go.Proofs.YtgemaohdlibboaaGreatDoor.H
/- Walks: the program reads relations. No condition. -/
namespace Go.Proofs.YtgemaohdlibboaaGreatDoor.H
open Go Go.RowKit Go.Proofs.YtgemaohdlibboaaGreatDoorW.PrintWords Go.Proofs.YtgemaohdlibboaaGreatDoorW.PrintLast
open Go.Proofs.YtgemaohdlibboaaGreatDoor.Reg (On on_draw)
set_option maxHeartbeats 4000000
set_option maxRecDepth 100000
set_option linter.unusedVariables false
set_option linter.unusedSimpArgs false

theorem ownR0 {W : World} {g lo : Nat} (hg : g = W.heap.size) (hlo : lo ≤ W.heap.size) : OR (W.alloc (.cells #[] 95 (0, 0))) lo (.slice (some ⟨g, 0, none⟩) 0 0) [] := by
  subst hg
  exact own_lower (World.ownsRow_lit (base := W.heap.size) (e := 95) (size := 3) W #[] 0 (Nat.le_refl _) (by simp [maxLen]) (by simp)) hlo
theorem OR.same2 {w : World} {lo : Nat} {A : Option Addr} {n c : Nat} {rs : List Rel} (h : OR w lo (.slice A n c) rs) : n = rs.length ∧ Rels w A c rs := by
  obtain ⟨A', c', e, hR⟩ := OR.rd h
  injection e with e1 e2 e3
  subst e1 e3
  exact ⟨e2, hR⟩
theorem litR1 (W : World) (r : Rel) : Rels (W.alloc (.cells #[.string r.1, .int .i64 r.2.1, .bool r.2.2] 95 (0, 0))) (some ⟨W.heap.size, 0, none⟩) 1 [r] := by
  have h := World.ownsRow_lit (base := W.heap.size) (e := 95) (size := 3) W #[.string r.1, .int .i64 r.2.1, .bool r.2.2] 1 (Nat.le_refl _) (by simp [maxLen]) (by simp)
  have h' : OR (W.alloc (.cells #[.string r.1, .int .i64 r.2.1, .bool r.2.2] 95 (0, 0))) W.heap.size (.slice (some ⟨W.heap.size, 0, none⟩) 1 1) [r] := h
  exact (OR.same2 h').2
section
variable {ops : Array Oper} {rest : List Oper} {o : Oper} {a : Act} {Q : Exit → Act → World → Prop} {W : World}
/-- A literal of one element. -/
theorem litN1 (N : Tmp) (cs : Array Value) (t : TypeId) (h : wpList Tryz.prog ops Q rest (a.put (some N) (.slice (some ⟨W.heap.size, 0, none⟩) 1 1)) (W.alloc (.cells cs t (0, 0))))
    (hd : o.dst = some N := by rfl) (hg : o.guard = none := by rfl) (hr : (execOp a.eval o).run Tryz.prog W = .ok (.value (.slice (some ⟨W.heap.size, 0, none⟩) 1 1)) (W.alloc (.cells cs t (0, 0))) := by first | (go_simp; done) | (go_simp; rfl)) : wpList Tryz.prog ops Q (o :: rest) a W :=
  Kd.event_run hg hr (by rw [hd]; exact h)
end
theorem str_bne (a b : List UInt8) : ((strB a).toList != (strB b).toList) = decide (a ≠ b) := by
  rw [bne, str_beq]; by_cases h : a = b <;> simp [h]
theorem str_nil (a : List UInt8) : ((strB a).toList == ([] : List UInt8)) = decide (a = []) := by
  rw [ByteArray.toList_eq, strB_data, Bool.eq_iff_iff]; simp
theorem parL_cons (s w : List UInt8) (r : List (List UInt8)) (out : List Rel) : parL s (w :: r) out = (match parW w with | some x => parL s r (out ++ [x]) | none => ([], false)) := by rw [parL]; cases parW w <;> rfl
theorem parL_drop (s : List UInt8) (ws : List (List UInt8)) (k : Nat) (h : k < ws.length) (out : List Rel) : parL s (ws.drop k) out = (match parW ws[k] with | some x => parL s (ws.drop (k + 1)) (out ++ [x]) | none => ([], false)) := by
  rw [List.drop_eq_getElem_cons h, parL_cons]
theorem iParseRelations_calls (w : World) (s : List UInt8) (hl : s.length ≤ 2000000) : Calls Tryz.prog 37 #[.string (strB s)] w (Got fun v w' => ∃ v1, v = .tuple #[v1, .bool (parR s).2] ∧ OR w' w.heap.size v1 (parR s).1 ∧ On w w') := by
  have hl' := Aside0.mk hl
  clear hl
  by_cases c : s = []
  · have hb1 : ((strB s).toList == ([] : List UInt8)) = true := by rw [str_nil]; exact decide_eq_true c
    have hb2 : ((strB s).toList = ([] : List UInt8)) = True := eq_true (beq_iff_eq.1 hb1)
    have hp := Aside0.mk (show parR s = ([], true) by unfold parR; rw [if_pos c])
    clear c
    go_enter Tryz.func37, Tryz.ntmps37
    go_wp2
    go_ret2
    exact ⟨_, rfl, _, by rw [hp.out]; rfl, by rw [hp.out]; exact ownR0 rfl (Nat.le_refl _), On.alloc (On.refl _) _⟩
  · have hb1 : ((strB s).toList == ([] : List UInt8)) = false := by rw [str_nil]; exact decide_eq_false c
    have hb2 : ((strB s).toList = ([] : List UInt8)) = False := eq_false (fun e => by rw [beq_eq_false_iff_ne] at hb1; exact hb1 e)
    have hp := Aside0.mk (show parR s = parL s (cutS 32 s) [] by unfold parR; rw [if_neg c])
    have hwl := Aside0.mk (cutS_len 32 s)
    clear c
    go_enter Tryz.func37, Tryz.ntmps37
    go_wp2_with (go_at_call 56; refine Stop.out ?_)
    refine ⟨(Split_calls _ s 32 hl'.out).mono ?_⟩
    rintro e w1 ⟨v, rfl, hO, hb⟩
    obtain ⟨ws, hws⟩ : ∃ ws, cutS 32 s = ws := ⟨_, rfl⟩
    rw [hws] at hO hp hwl
    obtain ⟨A, n, rfl, hSt⟩ := OSt.slice hO
    have hOw := Aside0.mk (own_lower hO (On.alloc (On.refl w) (.cells #[] 95 (0, 0))).size)
    have hb' := Aside0.mk hb
    have hmx : ws.length ≤ 9223372036854775807 := hSt.max
    clear hO hSt hb hws hb1 hb2
    go_wp2
    go_loopw [4, 16] (fun v4 v16 wr => ∃ (k : Nat) (out : List Rel), k ≤ ws.length ∧ v16 = .int .i64 k ∧ OR wr w.heap.size v4 out ∧ out.length ≤ k ∧ Aside0 (parL s (ws.drop k) out = parL s ws []) ∧ On w wr ∧ OSt wr w.heap.size (.slice A ws.length n) ws) (fun _ v16 _ => ws.length - (intOf v16).toNat)
    case atStart => exact ⟨0, [], Nat.zero_le _, rfl, pw_own_below (ownR0 rfl (Nat.le_refl _)) hb'.out, Nat.le_refl _, ⟨rfl⟩, (On.alloc (On.refl _) _).trans hb'.out, hOw.out⟩
    case round =>
      obtain ⟨k, out, hk, rfl, hO, hol, hq, hB, hOs⟩ := hrel
      have hOs' := Aside0.mk hOs
      have hO' := Aside0.mk hO
      have hol' := Aside0.mk hol
      have hWW := Aside0.mk hB
      clear hB hO hol hOs
      by_cases hlt : k < ws.length
      · obtain ⟨ad, rfl, hx⟩ := (OSt.same hOs'.out).2.cell k hlt
        have hk' := Aside0.mk hlt
        have hst := Aside0.mk ((parL_drop s ws k hlt out).symm.trans hq.out)
        obtain ⟨wd, hwd⟩ : ∃ wd, ws[k] = wd := ⟨_, rfl⟩
        rw [hwd] at hx hst
        clear hwd hq
        by_cases h2 : (cutP wd).1.length = 2
        · obtain ⟨a, b, hab⟩ : ∃ a b, (cutP wd).1 = [a, b] := by
            match hh : (cutP wd).1, h2 with
            | [a, b], _ => exact ⟨a, b, rfl⟩
          obtain ⟨sg, hsg⟩ : ∃ sg, (cutP wd).2 = sg := ⟨_, rfl⟩
          have hpw := Aside0.mk (parW_some (w := wd) (a := a) (b := b) (s := sg) (Prod.ext hab hsg))
          have hab' := Aside0.mk hab
          have hsg' := Aside0.mk hsg
          have hz : (strB [a, b]).size = 2 := by rw [strB_size]; rfl
          have e1 : (strB [a, b]).extract 0 1 = strB [a] := by rw [strB_extract]; rfl
          have hat := strB_at [a, b] 1 (by simp) b rfl
          have hsub : wrap64 ((b.toNat : Int) - 48) = (b.toNat : Int) - 48 := IntWalk.wrap64_in _ (by have := b.toNat_lt; omega)
          have hsub2 : IntKind.i64.wrap ((b.toNat : Int) - 48) = (b.toNat : Int) - 48 := IntWalk.i64_in _ (by have := b.toNat_lt; omega)
          have hwb : wrap64 (b.toNat : Int) = (b.toNat : Int) := IntWalk.wrap64_in _ (by have := b.toNat_lt; omega)
          have hwb2 : IntKind.i64.wrap (b.toNat : Int) = (b.toNat : Int) := IntWalk.i64_in _ (by have := b.toNat_lt; omega)
          clear h2 hab hsg
          go_wp2_with (go_at_call 106; refine (CutPrefix_calls _ wd).mono ?_; rintro e w2 ⟨rfl, hb2⟩; rw [hab'.out, hsg'.out]; have hb2' := Aside0.mk hb2; clear hb2)
          refine Reg.region [(0,.P),(1,.P),(2,.P),(3,.P),(4,.P),(5,.P),(6,.P),(7,.P),(8,.P)] [9,10,11] (by kernel_rfl) (by kernel_rfl) ?_
          repeat first | refine sP ?_ | refine sS ?_ | refine sA ?_ | refine sL ?_ | refine sQ ?_ | refine sO ?_
          refine Reg.tail_ fun w3 hS => ?_
          have hS' := Aside0.mk (hb2'.out.trans hS)
          first | rw [hwb, hsub] | rw [hwb2, hsub2] | skip
          clear hS e1 hat hsub hsub2 hwb hwb2 hz
          refine litN1 38 #[.string (strB [a]), .int .i64 ((b.toNat : Int) - 48), .bool sg] 95 ?_
          have hOA := Aside0.mk (own_ex hO'.out (Ex.of_on (S := fun _ => False) (hS'.out.trans (On.alloc (On.refl w3) (.cells #[.string (strB [a]), .int .i64 ((b.toNat : Int) - 48), .bool sg] 95 (0, 0))))) (fun _ _ h => h))
          have hBA := Aside0.mk (hWW.out.trans (hS'.out.trans (On.alloc (On.refl w3) (.cells #[.string (strB [a]), .int .i64 ((b.toNat : Int) - 48), .bool sg] 95 (0, 0)))))
          obtain ⟨ys, hys⟩ : ∃ ys, out ++ [((strB [a], (b.toNat : Int) - 48, sg) : Rel)] = ys := ⟨_, rfl⟩
          have hys' := Aside0.mk hys
          refine apR 39 hys hOA.out (litR1 w3 (strB [a], (b.toNat : Int) - 48, sg)) hBA.out.size (by have := hol'.out; have := hk'.out; have := hwl.out; have := hl'.out; simp; omega) fun v3 w4 hO3 hg3 => ?_
          have hO3' := Aside0.mk hO3
          have hB3 := Aside0.mk (Ex.on hBA.out (Ex.of_grown hg3) (fun i e => own_base hO'.out i e.symm))
          have hOs3 := Aside0.mk (own_ex (pw_own_below hOs'.out (hS'.out.trans (On.alloc (On.refl w3) (.cells #[.string (strB [a]), .int .i64 ((b.toNat : Int) - 48), .bool sg] 95 (0, 0))))) (Ex.of_grown hg3) (fun i hi e => own_ne_blk (pw_own_below hOs'.out (hS'.out.trans (On.alloc (On.refl w3) (.cells #[.string (strB [a]), .int .i64 ((b.toNat : Int) - 48), .bool sg] 95 (0, 0))))) hOA.out (by decide) hi e.symm))
          clear hys hO3 hg3
          go_wp2
          have h0 := hst.out
          rw [hpw.out] at h0
          exact ⟨⟨k + 1, ys, by have := hk'.out; omega, by go_num, hO3'.out, by rw [← hys'.out]; have := hol'.out; simp; omega, ⟨by rw [← hys'.out]; exact h0⟩, hB3.out, hOs3.out⟩, by simp [intOf]; have := hk'.out; omega⟩
        · have hpw := Aside0.mk (parW_none h2)
          have hz1 : ((strB (cutP wd).1).size : Int) ≠ 2 := by rw [strB_size]; omega
          have hz2 : (((strB (cutP wd).1).size : Int) != 2) = true := bne_iff_ne.mpr hz1
          have hz3 : (((strB (cutP wd).1).size : Int) == 2) = false := beq_eq_false_iff_ne.mpr hz1
          clear h2
          go_wp2_with (go_at_call 106; refine (CutPrefix_calls _ wd).mono ?_; rintro e w2 ⟨rfl, hb2⟩; have hb2' := Aside0.mk hb2; clear hb2)
          go_ret2
          have h0 := hst.out
          rw [hpw.out] at h0
          exact ⟨_, rfl, _, by rw [hp.out, ← h0]; rfl, by rw [hp.out, ← h0]; exact ownR0 rfl (hWW.out.trans hb2'.out).size, (hWW.out.trans hb2'.out).trans (On.alloc (On.refl _) _)⟩
      · have h0 := Aside0.mk hq.out
        obtain ⟨Ao, co, hvo, hRo⟩ := OR.rd hO'.out
        subst hvo
        have hRo' := Aside0.mk hRo
        have hend := Aside0.mk (show (if fmtR out = s then (out, true) else ([], false)) = parR s by rw [hp.out, ← h0.out, List.drop_of_length_le (by omega)]; rw [parL])
        clear hRo hq
        by_cases e : fmtR out = s
        · have hbn : ((strB (fmtR out)).toList != (strB s).toList) = false := by rw [str_bne]; simp [e]
          have hbm : ((strB (fmtR out)).toList == (strB s).toList) = true := by rw [str_beq]; simp [e]
          have hbo : ((strB (fmtR out)).toList = (strB s).toList) = True := eq_true (beq_iff_eq.1 hbm)
          have he := Aside0.mk e
          clear e
          go_wp2_with (go_at_call 38; refine (iFormatRelations_calls _ Ao co out hRo'.out).mono ?_; rintro e w2 ⟨rfl, hb2⟩; have hb2' := Aside0.mk hb2; clear hb2)
          go_ret2
          have h1 := hend.out
          rw [if_pos he.out] at h1
          exact ⟨_, rfl, _, by rw [← h1]; rfl, by rw [← h1]; exact pw_own_below hO'.out hb2'.out, hWW.out.trans hb2'.out⟩
        · have hbn : ((strB (fmtR out)).toList != (strB s).toList) = true := by rw [str_bne]; simp [e]
          have hbm : ((strB (fmtR out)).toList == (strB s).toList) = false := by rw [str_beq]; simp [e]
          have hbo : ((strB (fmtR out)).toList = (strB s).toList) = False := eq_false (fun h => by rw [h] at hbm; simp at hbm)
          have he := Aside0.mk e
          clear e
          go_wp2_with (go_at_call 38; refine (iFormatRelations_calls _ Ao co out hRo'.out).mono ?_; rintro e w2 ⟨rfl, hb2⟩; have hb2' := Aside0.mk hb2; clear hb2)
          go_ret2
          have h1 := hend.out
          rw [if_neg he.out] at h1
          exact ⟨_, rfl, _, by rw [← h1]; rfl, by rw [← h1]; exact ownR0 rfl (hWW.out.trans hb2'.out).size, (hWW.out.trans hb2'.out).trans (On.alloc (On.refl _) _)⟩
end Go.Proofs.YtgemaohdlibboaaGreatDoor.H
/- Walks: the draws of relations and of facts, and of their texts. What is told: that they can be read; lengths. No condition. -/
namespace Go.Proofs.YtgemaohdlibboaaGreatDoor.H
open Go Go.RowKit Go.Proofs.YtgemaohdlibboaaGreatDoorW.PrintWords Go.Proofs.YtgemaohdlibboaaGreatDoorW.PrintLast
open Go.Proofs.YtgemaohdlibboaaGreatDoor.Reg (On on_draw)
set_option maxHeartbeats 8000000
set_option maxRecDepth 100000
set_option linter.unusedVariables false
set_option linter.unusedSimpArgs false

theorem litR2 (W : World) (r s : Rel) : Rels (W.alloc (.cells #[.string r.1, .int .i64 r.2.1, .bool r.2.2, .string s.1, .int .i64 s.2.1, .bool s.2.2] 95 (0, 0))) (some ⟨W.heap.size, 0, none⟩) 2 [r, s] := by
  have h : OR (W.alloc (.cells #[.string r.1, .int .i64 r.2.1, .bool r.2.2, .string s.1, .int .i64 s.2.1, .bool s.2.2] 95 (0, 0))) W.heap.size (.slice (some ⟨W.heap.size, 0, none⟩) 2 2) [r, s] := lit_own W #[.string r.1, .int .i64 r.2.1, .bool r.2.2, .string s.1, .int .i64 s.2.1, .bool s.2.2] 95 3 2 W.heap.size (Nat.le_refl _) (by omega) rfl
  exact (OR.same2 h).2
theorem dropK {w : World} {A : Option Addr} {c : Nat} {rs : List Rel} (k : Nat) (h : Rels w A c rs) (hl : k ≤ rs.length) : Rels w (if c = k then A else A.map (·.add (k * 3))) (c - k) (rs.drop k) :=
  ⟨by rw [List.length_drop]; have := h.1; omega, Kd.C_drop (m := k) (c := c) h.2 hl h.1⟩
/-- A row of relations that can be read. -/
structure RRl (w : World) (v : Value) (rs : List Rel) : Prop where mk :: (out : ∃ A c, v = .slice A rs.length c ∧ Rels w A c rs)
theorem RRl.on {W w : World} {v : Value} {rs : List Rel} (h : RRl W v rs) (hb : On W w) : RRl w v rs := by
  obtain ⟨A, c, e, h1⟩ := h.out
  exact ⟨A, c, e, h1.on hb⟩
theorem OR.rr {w : World} {lo : Nat} {v : Value} {rs : List Rel} (h : OR w lo v rs) : RRl w v rs := by
  obtain ⟨A, c, e, h1⟩ := OR.rd h
  exact ⟨A, c, e, h1⟩
theorem DrawAreValid_calls (w : World) (A c) (xs : List Int) (hc : xs.length ≤ c) (hK : kBytes.C w A xs.length xs) :
    Calls Tryz.prog 105 #[.slice A xs.length c] w (Got fun v w' => ∃ rs, RRl w' v rs ∧ On w w') := by
  have hK' := Aside0.mk hK
  have hc' := Aside0.mk hc
  clear hK hc
  go_enter Tryz.func105, Tryz.ntmps105
  go_wp2_with (go_at_call 64; refine Stop.out ?_)
  refine ⟨(l1New_calls w A c xs hc'.out hK'.out).mono ?_⟩
  rintro e w1 ⟨v, rfl, q, rfl, hC1, hb1⟩
  have hW1 := Aside0.mk hb1
  have hq := Aside0.mk hC1.lo
  have hql := Aside0.mk hC1.lt
  have hC1' := Aside0.mk hC1
  clear hC1 hb1
  go_wp2_with (go_at_call 115; refine Stop.out ?_)
  refine ⟨(l3Sigs_calls w1).mono ?_⟩
  rintro e w2 ⟨v, rfl, hO2, hb2⟩
  obtain ⟨A0, d0, rfl⟩ := own_slice hO2
  have hO2' := Aside0.mk hO2
  have hC2 := Aside0.mk (hC1'.out.next hb2)
  have hW2 := Aside0.mk (hW1.out.trans hb2)
  have hs2 := Aside0.mk hb2.size
  clear hO2 hb2
  go_wp2_with (go_at_call 138; refine Stop.out ?_)
  refine ⟨(l1Below_calls w w2 q hC2.out 5 (by omega) (by omega)).mono ?_⟩
  rintro e w3 ⟨v, rfl, ⟨x, rfl, hx⟩, hC3, hE3⟩
  have hC3' := Aside0.mk hC3
  have hO3 := Aside0.mk (own_ex hO2'.out hE3 (fun i hi e => by have h1 := own_base hO2'.out i hi; have h2 : i = q := e; have h3 := hql.out; omega))
  have hW3 := Aside0.mk (Ex.on hW2.out hE3 (fun i e => by have h' : i = q := e; have := hq.out; omega))
  have hs3 := Aside0.mk (Nat.le_trans hs2.out hE3.size)
  have hcap := Aside0.mk (show sigs.length ≤ d0 from (OR.same2 hO3.out).2.1)
  clear hC3 hE3 hx
  by_cases hx0 : x = 0
  · subst hx0
    go_wp2_with (go_at_call 138; refine Stop.out ?_)
    refine ⟨(l1Below_calls w w3 q hC3'.out 5 (by omega) (by omega)).mono ?_⟩
    rintro e w4 ⟨v, rfl, ⟨y, rfl, hy⟩, hC4, hE4⟩
    obtain ⟨k, rfl⟩ := Int.eq_ofNat_of_zero_le hy.1
    have hk := Aside0.mk (show k < sigs.length by show k < 5; omega)
    have hC4' := Aside0.mk hC4
    have hE4' := Aside0.mk hE4
    clear hC4 hE4 hy
    go_wp2_with (go_at_call 139; refine Stop.out ?_)
    refine ⟨(l3One_calls w w4 q hC4'.out).mono ?_⟩
    rintro e w5 ⟨v, rfl, ⟨r, rfl⟩, hC5, hE5⟩
    have hE5' := Aside0.mk (hE4'.out.trans hE5 fun _ _ h => h)
    have hO5 := Aside0.mk (own_ex hO3.out hE5'.out (fun i hi e => by have h1 := own_base hO3.out i hi; have h2 : i = q := e; have h3 := hql.out; omega))
    have hW5 := Aside0.mk (Ex.on hW3.out hE5'.out (fun i e => by have h' : i = q := e; have := hq.out; omega))
    clear hC5 hE5
    obtain ⟨gr, hgA, hgo, ⟨z0, hz0⟩, ⟨z1, hz1⟩, ⟨z2, hz2⟩, hfz, hset⟩ := OR.setAt hO5.out hk.out
    have hset' := Aside0.mk (hset r)
    have hgr := Aside0.mk (own_base hO5.out gr hgo)
    have hkb := hk.out
    have hkb2 : k < 5 := hk.out
    clear hset hgo
    subst hgA
    go_wp2
    go_ret
    refine ⟨.slice (some ⟨gr, 0, none⟩) sigs.length d0, rfl, sigs.set k r, ⟨some ⟨gr, 0, none⟩, d0, ?_, (OR.same2 hset'.out).2⟩, Reg.On.set (Reg.On.set (Reg.On.set hW5.out (by have := hgr.out; have := hW1.out.size; simp; omega) _) (by have := hgr.out; have := hW1.out.size; simp; omega) _) (by have := hgr.out; have := hW1.out.size; simp; omega) _⟩
    rw [List.length_set]
  · have k0 : (x == 0) = false := by simpa using hx0
    have k1 : (x = 0) = False := eq_false hx0
    clear hx0
    by_cases hx1 : x = 1
    · subst hx1
      go_wp2_with (refine gate 24 ?_)
      obtain ⟨w4, hw4⟩ : ∃ w4, w3.alloc (.cells #[.string ⟨#[115]⟩, .int .i64 1, .bool false, .string ⟨#[116]⟩, .int .i64 1, .bool false] 95 (0, 0)) = w4 := ⟨_, rfl⟩
      have hS4 := Aside0.mk (show On w3 w4 from hw4 ▸ On.alloc (On.refl _) _)
      have hL4 := Aside0.mk (show Rels w4 (some ⟨w3.heap.size, 0, none⟩) 2 [((⟨#[115]⟩ : ByteArray), (1 : Int), false), ((⟨#[116]⟩ : ByteArray), (1 : Int), false)] from hw4 ▸ litR2 w3 (⟨#[115]⟩, 1, false) (⟨#[116]⟩, 1, false))
      rw [hw4]
      clear hw4
      obtain ⟨zs, hz⟩ : ∃ zs, sigs ++ [((⟨#[115]⟩ : ByteArray), (1 : Int), false), ((⟨#[116]⟩ : ByteArray), (1 : Int), false)] = zs := ⟨_, rfl⟩
      refine ⟨apR 24 hz (pw_own_below hO3.out hS4.out) hL4.out (by have := hs3.out; have := hS4.out.size; omega) (by show 5 + 2 ≤ 1000000000; omega) fun v5 w5 hO5 hg5 => ?_⟩
      have hO5' := Aside0.mk hO5
      have hW5 := Aside0.mk (Ex.on (hW3.out.trans hS4.out) (Ex.of_grown hg5) (fun i e => by have h1 := own_base hO3.out i e.symm; have := hW1.out.size; omega))
      clear hO5 hg5 hz
      go_wp2
      go_ret
      exact ⟨_, rfl, zs, OR.rr hO5'.out, hW5.out⟩
    · have k2 : (x == 1) = false := by simpa using hx1
      have k3 : (x = 1) = False := eq_false hx1
      clear hx1
      by_cases hx2 : x = 2
      · subst hx2
        go_wp2_with (go_at_call 138; refine Stop.out ?_)
        refine ⟨(l1Below_calls w w3 q hC3'.out 5 (by omega) (by omega)).mono ?_⟩
        rintro e w4 ⟨v, rfl, ⟨y, rfl, hy⟩, hC4, hE4⟩
        obtain ⟨k, rfl⟩ := Int.eq_ofNat_of_zero_le hy.1
        have hk := Aside0.mk (show k ≤ sigs.length by show k ≤ 5; omega)
        have hO4 := Aside0.mk (own_ex hO3.out hE4 (fun i hi e => by have h1 := own_base hO3.out i hi; have h2 : i = q := e; have h3 := hql.out; omega))
        have hW4 := Aside0.mk (Ex.on hW3.out hE4 (fun i e => by have h' : i = q := e; have := hq.out; omega))
        clear hC4 hE4 hy
        go_wp2_with (refine gate 30 ?_)
        refine ⟨slR 30 (k := k) (A := A0) (n := sigs.length) (c := d0) hk.out hcap.out ?_⟩
        have hR4 := Aside0.mk (dropK k (OR.same2 hO4.out).2 hk.out)
        obtain ⟨Ac, hAc⟩ : ∃ Ac, (if d0 = k then A0 else A0.map (·.add (k * 3))) = Ac := ⟨_, rfl⟩
        obtain ⟨m4, hm4⟩ : ∃ m4, sigs.length - k = m4 := ⟨_, rfl⟩
        have hl4 := Aside0.mk (show m4 = (sigs.drop k).length by rw [List.length_drop, hm4])
        rw [hAc] at hR4 ⊢
        rw [hm4]
        clear hAc hm4
        go_wp2
        go_ret
        exact ⟨.slice Ac m4 (d0 - k), rfl, sigs.drop k, ⟨Ac, d0 - k, congrArg (fun n => Value.slice Ac n (d0 - k)) hl4.out, hR4.out⟩, hW4.out⟩
      · have k4 : (x == 2) = false := by simpa using hx2
        have k5 : (x = 2) = False := eq_false hx2
        clear hx2
        go_wp2
        go_ret
        exact ⟨_, rfl, sigs, OR.rr hO3.out, hW3.out⟩
theorem DrawFormatRelations_calls (w : World) (A c) (xs : List Int) (hc : xs.length ≤ c) (hK : kBytes.C w A xs.length xs) :
    Calls Tryz.prog 36 #[.slice A xs.length c] w (Got fun v w' => ∃ rs, RRl w' v rs ∧ On w w') := by
  have hK' := Aside0.mk hK
  have hc' := Aside0.mk hc
  clear hK hc
  go_enter Tryz.func36, Tryz.ntmps36
  go_wp2_with (go_at_call 105; refine Stop.out ?_)
  refine ⟨(DrawAreValid_calls w A c xs hc'.out hK'.out).mono ?_⟩
  rintro e w1 ⟨v, rfl, rs, hR, hb⟩
  have hR' := Aside0.mk hR
  have hb' := Aside0.mk hb
  clear hR hb
  go_wp2
  go_ret
  exact ⟨_, rfl, rs, hR'.out, hb'.out⟩
def textsR (t : List UInt8) : List ByteArray := [⟨#[]⟩, ⟨#[43]⟩, ⟨#[97]⟩, ⟨#[97, 48]⟩, ⟨#[97, 52]⟩, ⟨#[98, 49, 32, 97, 49]⟩, ⟨#[97, 49, 32]⟩, ⟨#[43, 97, 49, 32, 43, 97, 50]⟩, ⟨#[43, 43, 97, 49]⟩, strB t]
theorem textsR_at (t : List UInt8) : ∀ (i : Nat) (h : i < (textsR t).length), (#[.string ⟨#[]⟩, .string ⟨#[43]⟩, .string ⟨#[97]⟩, .string ⟨#[97, 48]⟩, .string ⟨#[97, 52]⟩, .string ⟨#[98, 49, 32, 97, 49]⟩, .string ⟨#[97, 49, 32]⟩, .string ⟨#[43, 97, 49, 32, 43, 97, 50]⟩, .string ⟨#[43, 43, 97, 49]⟩, .string (strB t)] : Array Value)[i]? = some (.string (textsR t)[i])
  | 0, _ => rfl
  | 1, _ => rfl
  | 2, _ => rfl
  | 3, _ => rfl
  | 4, _ => rfl
  | 5, _ => rfl
  | 6, _ => rfl
  | 7, _ => rfl
  | 8, _ => rfl
  | 9, _ => rfl
  | n + 10, h => absurd h (by show ¬ n + 10 < 10; omega)
theorem textsR_len (t : List UInt8) (h : t.length ≤ 2000) : ∀ x ∈ textsR t, x.data.toList.length ≤ 2000 := by
  intro x hx
  simp only [textsR, List.mem_cons, List.not_mem_nil, or_false] at hx
  rcases hx with rfl | rfl | rfl | rfl | rfl | rfl | rfl | rfl | rfl | rfl <;> first | (rw [strB_data]; exact h) | (simp)
def textsF (t : List UInt8) : List ByteArray := [⟨#[]⟩, ⟨#[97, 40, 41]⟩, ⟨#[97, 40, 49, 41]⟩, ⟨#[97, 40, 49, 44, 50]⟩, ⟨#[98, 40, 110, 48, 41]⟩, ⟨#[98, 91, 49, 93]⟩, ⟨#[122, 40, 49, 41]⟩, ⟨#[98, 40, 49, 41, 32]⟩, ⟨#[97, 40, 49, 44, 110, 48, 50, 41]⟩, strB t]
theorem textsF_at (t : List UInt8) : ∀ (i : Nat) (h : i < (textsF t).length), (#[.string ⟨#[]⟩, .string ⟨#[97, 40, 41]⟩, .string ⟨#[97, 40, 49, 41]⟩, .string ⟨#[97, 40, 49, 44, 50]⟩, .string ⟨#[98, 40, 110, 48, 41]⟩, .string ⟨#[98, 91, 49, 93]⟩, .string ⟨#[122, 40, 49, 41]⟩, .string ⟨#[98, 40, 49, 41, 32]⟩, .string ⟨#[97, 40, 49, 44, 110, 48, 50, 41]⟩, .string (strB t)] : Array Value)[i]? = some (.string (textsF t)[i])
  | 0, _ => rfl
  | 1, _ => rfl
  | 2, _ => rfl
  | 3, _ => rfl
  | 4, _ => rfl
  | 5, _ => rfl
  | 6, _ => rfl
  | 7, _ => rfl
  | 8, _ => rfl
  | 9, _ => rfl
  | n + 10, h => absurd h (by show ¬ n + 10 < 10; omega)
theorem textsF_len (t : List UInt8) (h : t.length ≤ 2000) : ∀ x ∈ textsF t, x.data.toList.length ≤ 2000 := by
  intro x hx
  simp only [textsF, List.mem_cons, List.not_mem_nil, or_false] at hx
  rcases hx with rfl | rfl | rfl | rfl | rfl | rfl | rfl | rfl | rfl | rfl <;> first | (rw [strB_data]; exact h) | (simp)

theorem DrawParseRelations_calls (w : World) (A c) (xs : List Int) (hc : xs.length ≤ c) (hK : kBytes.C w A xs.length xs) :
    Calls Tryz.prog 39 #[.slice A xs.length c] w (Got fun v w' => ∃ t : List UInt8, v = .string (strB t) ∧ t.length ≤ 2000 ∧ On w w') := by
  have hK' := Aside0.mk hK
  have hc' := Aside0.mk hc
  clear hK hc
  go_enter Tryz.func39, Tryz.ntmps39
  go_wp2_with (go_at_call 64; refine Stop.out ?_)
  refine ⟨(l1New_calls w A c xs hc'.out hK'.out).mono ?_⟩
  rintro e w1 ⟨v, rfl, q, rfl, hC1, hb1⟩
  have hW1 := Aside0.mk hb1
  have hq := Aside0.mk hC1.lo
  have hC1' := Aside0.mk hC1
  clear hC1 hb1
  go_wp2_with (go_at_call 105; refine Stop.out ?_)
  refine ⟨(DrawAreValid_calls w1 A c xs hc'.out (Kd.C_below hK'.out hW1.out)).mono ?_⟩
  rintro e w2 ⟨v, rfl, rs, hR, hb2⟩
  obtain ⟨A0, c0, rfl, h0⟩ := hR.out
  have h0' := Aside0.mk h0
  have hC2' := Aside0.mk (hC1'.out.next hb2)
  have hW2 := Aside0.mk (hW1.out.trans hb2)
  clear hR hb2 h0
  go_wp2_with (go_at_call 108; refine Stop.out ?_)
  refine ⟨(sFormatRelations_calls w2 A0 c0 rs h0'.out).mono ?_⟩
  rintro e w3 ⟨rfl, hb3⟩
  have hC3 := Aside0.mk (hC2'.out.next hb3)
  have hW3 := Aside0.mk (hW2.out.trans hb3)
  have hlen := Aside0.mk (fmtR_len rs)
  obtain ⟨s, hs⟩ : ∃ s, fmtR rs = s := ⟨_, rfl⟩
  rw [hs] at hlen ⊢
  clear hs hb3
  go_wp2_with (go_at_call 66; refine Stop.out ?_)
  refine ⟨(l1Once_calls w w3 q hC3.out 3 (by omega) (by omega)).mono ?_⟩
  rintro e w4 ⟨v, rfl, ⟨on, rfl⟩, hC4, hE4⟩
  have hC4' := Aside0.mk hC4
  have hW4 := Aside0.mk (Ex.on hW3.out hE4 (fun i e => by have h' : i = q := e; have := hq.out; omega))
  clear hC4 hE4
  cases on with
  | false =>
    go_wp2
    go_ret
    exact ⟨_, rfl, s, rfl, by have := hlen.out; omega, hW4.out⟩
  | true =>
    go_wp2_with (go_at_call 68; refine Stop.out ?_)
    refine ⟨(l1Spoil_calls w w4 q hC4'.out s (by have := hlen.out; omega)).mono ?_⟩
    rintro e w5 ⟨v, rfl, ⟨t, rfl, ht⟩, hC5, hE5⟩
    have hC5' := Aside0.mk hC5
    have hW5 := Aside0.mk (Ex.on hW4.out hE5 (fun i e => by have h' : i = q := e; have := hq.out; omega))
    have ht' := Aside0.mk ht
    have hql := Aside0.mk hC5.lt
    clear hC5 hE5 ht
    go_wp2_with (go_at_call 67; refine Stop.out ?_)
    have hb6 := Aside0.mk (On.alloc (On.refl w5) (.cells #[.string ⟨#[]⟩, .string ⟨#[43]⟩, .string ⟨#[97]⟩, .string ⟨#[97, 48]⟩, .string ⟨#[97, 52]⟩, .string ⟨#[98, 49, 32, 97, 49]⟩, .string ⟨#[97, 49, 32]⟩, .string ⟨#[43, 97, 49, 32, 43, 97, 50]⟩, .string ⟨#[43, 43, 97, 49]⟩, .string (strB t)] 9 (0, 0)))
    have hk6 := Aside0.mk (loc_new w5 #[.string ⟨#[]⟩, .string ⟨#[43]⟩, .string ⟨#[97]⟩, .string ⟨#[97, 48]⟩, .string ⟨#[97, 52]⟩, .string ⟨#[98, 49, 32, 97, 49]⟩, .string ⟨#[97, 49, 32]⟩, .string ⟨#[43, 97, 49, 32, 43, 97, 50]⟩, .string ⟨#[43, 43, 97, 49]⟩, .string (strB t)] 9)
    refine ⟨(l1Pick_calls w _ q (hC5'.out.next hb6.out) ⟨w5.heap.size, 0, none⟩ 10 (textsR t) (fun w' k i hi => ?_) (by show 1 ≤ 10; omega) (by show 10 ≤ 256; omega)).mono ?_⟩
    · have hb := blk_ex k hk6.out (by have := hql.out; omega)
      have h1 := (blk_cell hb i).trans (textsR_at t i hi)
      by_cases h0 : i = 0
      · subst h0; simpa [Addr.add] using h1
      · simpa [Addr.add, h0] using h1
    rintro e w6 ⟨v, rfl, ⟨x, rfl, hx⟩, hC6, hE6⟩
    have hxl := Aside0.mk (textsR_len t (by have := ht'.out; have := hlen.out; omega) x hx)
    have hE6' := Aside0.mk ((Ex.of_on (S := fun b => b = q) hb6.out).trans hE6 fun _ _ h => h)
    have hW6 := Aside0.mk (Ex.on hW5.out hE6'.out (fun i e => by have h' : i = q := e; have := hq.out; omega))
    clear hC6 hE6 hx
    go_wp2
    go_ret
    exact ⟨_, rfl, x.data.toList, (congrArg Value.string (strB_self x)).symm, hxl.out, hW6.out⟩
section
variable {fn : Func} {p u : Tmp} {tmps : Array Value} {w : World} {g : Nat} {t : TypeId} {cs : Array Value} {fr : Nat × Nat}
theorem retTF (h : fn.results = #[.tmp u, .cell p 60]) (hp : tmps.getD p undef = .pointer (some ⟨g, 0, none⟩)) (hg : w.heap[g]? = some (.cells cs t fr)) (hs : cs.size = 2) : (results fn tmps).run Tryz.prog w = .ok (.tuple #[tmps.getD u undef, .agg cs]) w :=
  results_tc h tmps w g t cs fr _ hp hg Tryz.underlying60 rfl (by rw [hs]; kernel_rfl)
end
theorem DrawIsValidFactS_calls (w : World) (A c) (xs : List Int) (hc : xs.length ≤ c) (hK : kBytes.C w A xs.length xs) :
    Calls Tryz.prog 110 #[.slice A xs.length c] w (Got fun v w' => ∃ v1 v2 f, v = .tuple #[v1, v2] ∧ (∀ w'', Ex (fun b => b < w.heap.size) w' w'' → RRl w'' v1 sigs) ∧ (∀ w'', Ex (fun b => b < w.heap.size) w' w'' → RFa w'' v2 f) ∧ On w w') := by
  have hb0 := Aside0.mk (On.alloc (On.refl w) (.cells #[.int .i64 0, .slice none 0 0] 60 (0, 0)))
  have hL0 := Aside0.mk (loc_new w #[.int .i64 0, .slice none 0 0] 60)
  have hK' := Aside0.mk hK
  have hc' := Aside0.mk hc
  clear hK hc
  go_enter Tryz.func110, Tryz.ntmps110
  go_wp2_with (go_at_call 115; refine Stop.out ?_)
  obtain ⟨W, hW⟩ : ∃ W, w.alloc (.cells #[.int .i64 0, .slice none 0 0] 60 (0, 0)) = W := ⟨_, rfl⟩
  rw [hW] at hb0 hL0 ⊢
  clear hW
  refine ⟨(l3Sigs_calls W).mono ?_⟩
  rintro e w1 ⟨v, rfl, hO1, hb1⟩
  obtain ⟨A0, d0, rfl⟩ := own_slice hO1
  have hO1' := Aside0.mk hO1
  have hW1 := Aside0.mk (hb0.out.trans hb1)
  have hL1 := Aside0.mk (blk_below hL0.out hb1)
  have hgl := Aside0.mk (blk_lt hL0.out)
  clear hO1 hb1
  go_wp2_with (go_at_call 64; refine Stop.out ?_)
  refine ⟨(l1New_calls w1 A c xs hc'.out (Kd.C_below hK'.out hW1.out)).mono ?_⟩
  rintro e w2 ⟨v, rfl, q, rfl, hC2, hb2⟩
  have hq := Aside0.mk hC2.lo
  have hC2' := Aside0.mk hC2
  have hO2 := Aside0.mk (pw_own_below hO1'.out hb2)
  have hW2 := Aside0.mk (hW1.out.trans hb2)
  have hL2 := Aside0.mk (blk_below hL1.out hb2)
  have hs1 := Aside0.mk (blk_lt hL1.out)
  have hlt1 := Aside0.mk (own_lt hO1'.out)
  have hs2 := Aside0.mk (show w1.heap.size ≤ w2.heap.size from hb2.size)
  clear hC2 hb2
  go_wp2_with (go_at_call 116; refine Stop.out ?_)
  refine ⟨(l4Any_calls w1 w2 q hC2'.out).mono ?_⟩
  rintro e w3 ⟨v, rfl, ⟨f, hF, -⟩, hC3, hE3⟩
  obtain ⟨v1, rfl, hO, hI⟩ := hF.out
  obtain ⟨A1, d1, rfl⟩ := own_slice hO
  have hF' := Aside0.mk hF
  have hO3 := Aside0.mk (own_ex hO2.out hE3 (fun i hi e => by have h1 := hlt1.out i hi; have h2 : i = q := e; have h3 := hq.out; omega))
  have hL3 := Aside0.mk (blk_ex hE3 hL2.out (fun e => by have h1 := hs1.out; have h3 := hq.out; omega))
  have hW3 := Aside0.mk (Ex.on hW2.out hE3 (fun i e => by have h2 : i = q := e; have h1 := hs1.out; have h3 := hq.out; omega))
  have hcr := blk_cell hL3.out
  have hfr := blk_frozen hL3.out
  clear hF hO hI hC3 hE3
  go_wp2
  have EE := (Ex.set w3 ⟨w.heap.size, 0, none⟩ (.int .i64 f.1)).trans (Ex.set _ ⟨w.heap.size, 1, none⟩ (.slice A1 f.2.length d1)) (fun _ _ h => h)
  refine bodyPost_ret (retTF rfl rfl (g := w.heap.size) (blk_set (blk_set hL3.out 0 _) 1 _) rfl) rfl ?_
  exact ⟨_, rfl, _, _, f, rfl, fun w'' k => OR.rr (own_ex (own_ex hO3.out EE (fun i hi e => by have h1 := own_base hO3.out i hi; have h2 : i = w.heap.size := e; have h3 := hgl.out; omega)) k (fun i hi e => by have h1 := own_base hO3.out i hi; have h3 := hgl.out; omega)), fun w'' k => ((hF'.out.ex EE (fun b e => by have h2 : b = w.heap.size := e; have h1 := hs1.out; have h3 := hs2.out; omega)).ex k (fun b e => by have h1 := hs1.out; have h3 := hs2.out; omega)).read, Ex.on hW3.out EE (fun i e => by have h2 : i = w.heap.size := e; omega)⟩
theorem DrawFormatFact_calls (w : World) (A c) (xs : List Int) (hc : xs.length ≤ c) (hK : kBytes.C w A xs.length xs) :
    Calls Tryz.prog 42 #[.slice A xs.length c] w (Got fun v w' => ∃ v1 v2 f, v = .tuple #[v1, v2] ∧ RRl w' v1 sigs ∧ RFa w' v2 f ∧ On w w') := by
  have hb0 := Aside0.mk (On.alloc (On.refl w) (.cells #[.int .i64 0, .slice none 0 0] 60 (0, 0)))
  have hL0 := Aside0.mk (loc_new w #[.int .i64 0, .slice none 0 0] 60)
  have hK' := Aside0.mk hK
  have hc' := Aside0.mk hc
  clear hK hc
  go_enter Tryz.func42, Tryz.ntmps42
  go_wp2_with (go_at_call 110; refine Stop.out ?_)
  obtain ⟨W, hW⟩ : ∃ W, w.alloc (.cells #[.int .i64 0, .slice none 0 0] 60 (0, 0)) = W := ⟨_, rfl⟩
  rw [hW] at hb0 hL0 ⊢
  clear hW
  refine ⟨(DrawIsValidFactS_calls W A c xs hc'.out (Kd.C_below hK'.out hb0.out)).mono ?_⟩
  rintro e w1 ⟨v, rfl, v1, v2, f, rfl, hR, hF, hb1⟩
  obtain ⟨A0, d0, rfl, -⟩ := (hR w1 (Ex.refl _ _)).out
  obtain ⟨A1, d1, rfl, -⟩ := (hF w1 (Ex.refl _ _)).out
  have hR' := Aside0.mk hR
  have hF' := Aside0.mk hF
  have hW1 := Aside0.mk (hb0.out.trans hb1)
  have hL1 := Aside0.mk (blk_below hL0.out hb1)
  have hgl := Aside0.mk (blk_lt hL0.out)
  have hcr := blk_cell hL1.out
  have hfr := blk_frozen hL1.out
  clear hR hF hb1
  go_wp2
  have EE := (Ex.set w1 ⟨w.heap.size, 0, none⟩ (.int .i64 f.1)).trans (Ex.set _ ⟨w.heap.size, 1, none⟩ (.slice A1 f.2.length d1)) (fun _ _ h => h)
  have EF := EE.mono (S' := fun b => b < W.heap.size) (fun b e => by have h2 : b = w.heap.size := e; have h3 := hgl.out; omega)
  refine bodyPost_ret (retTF rfl rfl (g := w.heap.size) (blk_set (blk_set hL1.out 0 _) 1 _) rfl) rfl ?_
  exact ⟨_, rfl, _, _, f, rfl, hR'.out _ EF, hF'.out _ EF, Ex.on hW1.out EE (fun i e => by have h2 : i = w.heap.size := e; omega)⟩
theorem DrawParseFact_calls (w : World) (A c) (xs : List Int) (hc : xs.length ≤ c) (hK : kBytes.C w A xs.length xs) :
    Calls Tryz.prog 45 #[.slice A xs.length c] w (Got fun v w' => ∃ (v1 : Value) (t : List UInt8), v = .tuple #[v1, .string (strB t)] ∧ RRl w' v1 sigs ∧ t.length ≤ 2000 ∧ On w w') := by
  have hK' := Aside0.mk hK
  have hc' := Aside0.mk hc
  clear hK hc
  go_enter Tryz.func45, Tryz.ntmps45
  go_wp2_with (go_at_call 64; refine Stop.out ?_)
  refine ⟨(l1New_calls w A c xs hc'.out hK'.out).mono ?_⟩
  rintro e w1 ⟨v, rfl, q, rfl, hC1, hb1⟩
  have hW1 := Aside0.mk hb1
  have hq := Aside0.mk hC1.lo
  have hql1 := Aside0.mk hC1.lt
  have hC1' := Aside0.mk hC1
  clear hC1 hb1
  go_wp2_with (go_at_call 115; refine Stop.out ?_)
  refine ⟨(l3Sigs_calls w1).mono ?_⟩
  rintro e wa ⟨v, rfl, hOa, hba⟩
  obtain ⟨Aa, da, rfl⟩ := own_slice hOa
  have hOa' := Aside0.mk hOa
  have hCa := Aside0.mk (hC1'.out.next hba)
  have hWa := Aside0.mk (hW1.out.trans hba)
  clear hOa hba
  go_wp2_with (go_at_call 116; refine Stop.out ?_)
  refine ⟨(l4Any_calls w wa q hCa.out).mono ?_⟩
  rintro e w2 ⟨v, rfl, ⟨f, hF, -⟩, hC2, hE2⟩
  obtain ⟨A1, d1, rfl, hI⟩ := hF.read.out
  have hI' := Aside0.mk hI
  have hC2' := Aside0.mk hC2
  have hOb := Aside0.mk (own_ex hOa'.out hE2 (fun i hi e => by have h1 := own_base hOa'.out i hi; have h2 : i = q := e; have h3 := hql1.out; omega))
  have hW2 := Aside0.mk (Ex.on hWa.out hE2 (fun i e => by have h2 : i = q := e; have h3 := hq.out; omega))
  clear hF hI hC2 hE2
  go_wp2_with (go_at_call 114; refine Stop.out ?_)
  refine ⟨(sFormatFact_calls w2 Aa da sigs (OR.same2 hOb.out).2 A1 d1 f hI'.out).mono ?_⟩
  rintro e w3 ⟨rfl, hb3⟩
  have hC3 := Aside0.mk (hC2'.out.next hb3)
  have hW3 := Aside0.mk (hW2.out.trans hb3)
  have hlen := Aside0.mk (fmtF_len sigs f)
  obtain ⟨s, hs⟩ : ∃ s, fmtF sigs f = s := ⟨_, rfl⟩
  rw [hs] at hlen ⊢
  clear hs hb3
  go_wp2_with (go_at_call 66; refine Stop.out ?_)
  refine ⟨(l1Once_calls w w3 q hC3.out 3 (by omega) (by omega)).mono ?_⟩
  rintro e w4 ⟨v, rfl, ⟨on, rfl⟩, hC4, hE4⟩
  have hC4' := Aside0.mk hC4
  have hW4 := Aside0.mk (Ex.on hW3.out hE4 (fun i e => by have h' : i = q := e; have := hq.out; omega))
  have hql4 := Aside0.mk hC4.lt
  clear hC4 hE4
  cases on with
  | false =>
    go_wp2_with (go_at_call 115; refine Stop.out ?_)
    refine ⟨(l3Sigs_calls w4).mono ?_⟩
    rintro e w5 ⟨v, rfl, hO5, hb5⟩
    have hO5' := Aside0.mk hO5
    have hW5 := Aside0.mk (hW4.out.trans hb5)
    clear hO5 hb5
    go_wp2
    go_ret2
    exact ⟨_, rfl, _, s, rfl, OR.rr hO5'.out, by have := hlen.out; omega, hW5.out⟩
  | true =>
    go_wp2_with (go_at_call 115; refine Stop.out ?_)
    refine ⟨(l3Sigs_calls w4).mono ?_⟩
    rintro e wc ⟨v, rfl, hOc, hbc⟩
    have hOc' := Aside0.mk hOc
    have hWc := Aside0.mk (hW4.out.trans hbc)
    have hCc := Aside0.mk (hC4'.out.next hbc)
    clear hOc hbc
    go_wp2_with (go_at_call 68; refine Stop.out ?_)
    refine ⟨(l1Spoil_calls w wc q hCc.out s (by have := hlen.out; omega)).mono ?_⟩
    rintro e w5 ⟨v, rfl, ⟨t, rfl, ht⟩, hC5, hE5⟩
    have hC5' := Aside0.mk hC5
    have hO5 := Aside0.mk (own_ex hOc'.out hE5 (fun i hi e => by have h1 := own_base hOc'.out i hi; have h2 : i = q := e; have h3 := hql4.out; omega))
    have hW5 := Aside0.mk (Ex.on hWc.out hE5 (fun i e => by have h' : i = q := e; have := hq.out; omega))
    have ht' := Aside0.mk ht
    have hql := Aside0.mk hC5.lt
    clear hC5 hE5 ht
    go_wp2_with (go_at_call 67; refine Stop.out ?_)
    have hb6 := Aside0.mk (On.alloc (On.refl w5) (.cells #[.string ⟨#[]⟩, .string ⟨#[97, 40, 41]⟩, .string ⟨#[97, 40, 49, 41]⟩, .string ⟨#[97, 40, 49, 44, 50]⟩, .string ⟨#[98, 40, 110, 48, 41]⟩, .string ⟨#[98, 91, 49, 93]⟩, .string ⟨#[122, 40, 49, 41]⟩, .string ⟨#[98, 40, 49, 41, 32]⟩, .string ⟨#[97, 40, 49, 44, 110, 48, 50, 41]⟩, .string (strB t)] 9 (0, 0)))
    have hk6 := Aside0.mk (loc_new w5 #[.string ⟨#[]⟩, .string ⟨#[97, 40, 41]⟩, .string ⟨#[97, 40, 49, 41]⟩, .string ⟨#[97, 40, 49, 44, 50]⟩, .string ⟨#[98, 40, 110, 48, 41]⟩, .string ⟨#[98, 91, 49, 93]⟩, .string ⟨#[122, 40, 49, 41]⟩, .string ⟨#[98, 40, 49, 41, 32]⟩, .string ⟨#[97, 40, 49, 44, 110, 48, 50, 41]⟩, .string (strB t)] 9)
    refine ⟨(l1Pick_calls w _ q (hC5'.out.next hb6.out) ⟨w5.heap.size, 0, none⟩ 10 (textsF t) (fun w' k i hi => ?_) (by show 1 ≤ 10; omega) (by show 10 ≤ 256; omega)).mono ?_⟩
    · have hb := blk_ex k hk6.out (by have := hql.out; omega)
      have h1 := (blk_cell hb i).trans (textsF_at t i hi)
      by_cases h0 : i = 0
      · subst h0; simpa [Addr.add] using h1
      · simpa [Addr.add, h0] using h1
    rintro e w6 ⟨v, rfl, ⟨x, rfl, hx⟩, hC6, hE6⟩
    have hxl := Aside0.mk (textsF_len t (by have := ht'.out; have := hlen.out; omega) x hx)
    have hE6' := Aside0.mk ((Ex.of_on (S := fun b => b = q) hb6.out).trans hE6 fun _ _ h => h)
    have hW6 := Aside0.mk (Ex.on hW5.out hE6'.out (fun i e => by have h' : i = q := e; have := hq.out; omega))
    clear hC6 hE6 hx
    have hO6 := Aside0.mk (own_ex hO5.out hE6'.out (fun i hi e => by have h1 := own_base hO5.out i hi; have h2 : i = q := e; have h3 := hql4.out; omega))
    go_wp2
    go_ret2
    exact ⟨.tuple #[v, .string x], rfl, v, x.data.toList, congrArg (fun s => Value.tuple #[v, .string s]) (strB_self x).symm, OR.rr hO6.out, hxl.out, hW6.out⟩
end Go.Proofs.YtgemaohdlibboaaGreatDoor.H
/- Walks: the draws of one fact of an instance, of an instance with a fact. What is told: sizes and ranges. No condition. -/
namespace Go.Proofs.YtgemaohdlibboaaGreatDoor.H
open Go Go.RowKit Go.Proofs.YtgemaohdlibboaaGreatDoorW.PrintWords Go.Proofs.YtgemaohdlibboaaGreatDoorW.PrintLast
open Go.Proofs.YtgemaohdlibboaaGreatDoor.Reg (On on_draw)
set_option maxHeartbeats 4000000
set_option maxRecDepth 100000
set_option linter.unusedVariables false
set_option linter.unusedSimpArgs false

/-- A fact read whatever happens to blocks S. -/
def RSa (S : Nat → Prop) (w : World) (v : Value) (f : Fct) : Prop := ∀ w', Ex S w w' → RFa w' v f
theorem RSa.ex {S : Nat → Prop} {W w : World} {v : Value} {f : Fct} (h : RSa S W v f) (k : Ex S W w) : RSa S w v f := fun w' h' => h w' (k.trans h' fun _ _ h => h)
theorem OFa.rs {S : Nat → Prop} {w : World} {lo : Nat} {v : Value} {f : Fct} (h : OFa w lo v f) (hS : ∀ b, S b → b < lo) : RSa S w v f := fun w' k => (h.ex k hS).read
theorem RH.at {w : World} {A : Option Addr} {c : Nat} {hs : List Hdr} (h : RH w A c hs) (k : Nat) (hk : k < hs.length) : ∃ ad, A = some ad ∧ w.cell? (ad.add (k * 2)) = some (.int .i64 hs[k].1) ∧ w.cell? ⟨(ad.add (k * 2)).block, (ad.add (k * 2)).off + 1, none⟩ = some (hdV hs[k]) := by
  obtain ⟨ad, e, h0⟩ := h.cell (k * 2 + 0) _ ((flat_get (enc := encH) (sz := 2) (fun _ => rfl) hs k 0 hk (by omega)).trans rfl)
  obtain ⟨ad', e', h1⟩ := h.cell (k * 2 + 1) _ ((flat_get (enc := encH) (sz := 2) (fun _ => rfl) hs k 1 hk (by omega)).trans rfl)
  obtain rfl : ad = ad' := Option.some.inj (e.symm.trans e')
  exact ⟨ad, e, h0, by rw [← add_field _ _ 1 (by omega)]; exact h1⟩
section
variable {fn : Func} {p u : Tmp} {tmps : Array Value} {w : World} {g g' : Nat} {t t' : TypeId} {cs cs' : Array Value} {fr fr' : Nat × Nat}
end
end Go.Proofs.YtgemaohdlibboaaGreatDoor.H
/- Walks: the reference's draws of an instance with a fact and of two facts. What is told: sizes and ranges. No condition. -/
namespace Go.Proofs.YtgemaohdlibboaaGreatDoor.H
open Go Go.RowKit Go.Proofs.YtgemaohdlibboaaGreatDoorW.PrintWords Go.Proofs.YtgemaohdlibboaaGreatDoorW.PrintLast
open Go.Proofs.YtgemaohdlibboaaGreatDoor.Reg (On on_draw)
set_option maxHeartbeats 4000000
set_option maxRecDepth 100000
set_option linter.unusedVariables false
set_option linter.unusedSimpArgs false

end Go.Proofs.YtgemaohdlibboaaGreatDoor.H
/- Walks: the reference's draw of two facts. What is told: sizes and ranges. No condition. -/
namespace Go.Proofs.YtgemaohdlibboaaGreatDoor.H
open Go Go.RowKit Go.Proofs.YtgemaohdlibboaaGreatDoorW.PrintWords Go.Proofs.YtgemaohdlibboaaGreatDoorW.PrintLast
open Go.Proofs.YtgemaohdlibboaaGreatDoor.Reg (On on_draw)
set_option maxHeartbeats 4000000
set_option maxRecDepth 100000
set_option linter.unusedVariables false
set_option linter.unusedSimpArgs false

section
variable {fn : Func} {p u : Tmp} {tmps : Array Value} {w : World} {g g' : Nat} {t t' : TypeId} {cs cs' : Array Value} {fr fr' : Nat × Nat}
end
end Go.Proofs.YtgemaohdlibboaaGreatDoor.H
/- Walk: spec.EqualInstances. No condition. -/
namespace Go.Proofs.YtgemaohdlibboaaGreatDoor.H
open Go Go.RowKit Go.Proofs.YtgemaohdlibboaaGreatDoorW.PrintWords Go.Proofs.YtgemaohdlibboaaGreatDoorW.PrintLast
open Go.Proofs.YtgemaohdlibboaaGreatDoor.Reg (On on_draw)
set_option maxHeartbeats 4000000
set_option maxRecDepth 100000
set_option linter.unusedVariables false
set_option linter.unusedSimpArgs false

end Go.Proofs.YtgemaohdlibboaaGreatDoor.H
/- Walks: copies, and what the program holds to be in an instance. No condition. -/
namespace Go.Proofs.YtgemaohdlibboaaGreatDoor.H
open Go Go.RowKit Go.Proofs.YtgemaohdlibboaaGreatDoorW.PrintWords Go.Proofs.YtgemaohdlibboaaGreatDoorW.PrintLast
open Go.Proofs.YtgemaohdlibboaaGreatDoor.Reg (On on_draw)
set_option maxHeartbeats 1000000
set_option maxRecDepth 100000
set_option linter.unusedVariables false
set_option linter.unusedSimpArgs false

end Go.Proofs.YtgemaohdlibboaaGreatDoor.H
/- Walk: impl.IsSubset. No condition. -/
namespace Go.Proofs.YtgemaohdlibboaaGreatDoor.H
open Go Go.RowKit Go.Proofs.YtgemaohdlibboaaGreatDoorW.PrintWords Go.Proofs.YtgemaohdlibboaaGreatDoorW.PrintLast
open Go.Proofs.YtgemaohdlibboaaGreatDoor.Reg (On on_draw)
set_option maxHeartbeats 4000000
set_option maxRecDepth 100000
set_option linter.unusedVariables false
set_option linter.unusedSimpArgs false

end Go.Proofs.YtgemaohdlibboaaGreatDoor.H
/- Headers stored, cut, cleared. No condition. -/
namespace Go.Proofs.YtgemaohdlibboaaGreatDoor.H
open Go Go.RowKit Go.Proofs.YtgemaohdlibboaaGreatDoorW.PrintWords Go.Proofs.YtgemaohdlibboaaGreatDoorW.PrintLast
open Go.Proofs.YtgemaohdlibboaaGreatDoor.Reg (On on_draw)
set_option maxHeartbeats 1000000
set_option maxRecDepth 100000
set_option linter.unusedVariables false
set_option linter.unusedSimpArgs false

theorem OH.at {w : World} {lo g n c : Nat} {L : List Hdr} (h : OH w lo (.slice (some ⟨g, 0, none⟩) n c) L) (i : Nat) (hi : i < L.length) : w.cell? ⟨g, i * 2, none⟩ = some (.int .i64 L[i].1) ∧ w.cell? ⟨g, i * 2 + 1, none⟩ = some (hdV L[i]) := by
  have hn := (OH.rh h).1
  subst hn
  have h0 := h.cellAt (i * 2) (by omega)
  have h1 := h.cellAt (i * 2 + 1) (by omega)
  have e0 := flat_get (enc := encH) (sz := 2) (fun _ => rfl) L i 0 hi (by omega)
  have e1 := flat_get (enc := encH) (sz := 2) (fun _ => rfl) L i 1 hi (by omega)
  rw [Nat.add_zero] at e0
  rw [e0] at h0
  rw [e1] at h1
  exact ⟨h0, h1⟩
section
variable {ops : Array Oper} {rest : List Oper} {o : Oper} {a : Act} {Q : Exit → Act → World → Prop} {W : World}
end
end Go.Proofs.YtgemaohdlibboaaGreatDoor.H
