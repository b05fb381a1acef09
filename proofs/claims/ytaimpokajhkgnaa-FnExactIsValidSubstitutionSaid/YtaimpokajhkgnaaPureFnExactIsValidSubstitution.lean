/- IsValidSubstitution of the program and of the reference agree, for every substitution (past the law's own size bound it answers true itself). -/
import Derived.Test.YtaimpokajhkgnaaPFnExactIsValidSubstitutionx3
import Derived.Test.YtaimpokajhkgnaaOpens
import Derived.Test.YtaimpokajhkgnaaPlain
namespace Go.Proofs.Ytaimpokajhkgnaa.Pure
open Go.RowKit Go.Proofs.Ytaimpokajhkgnaa.PFnExactIsValidSubstitution Go.Proofs.YtaimpokajhkgnaaW.PrintWords Go.Proofs.YtaimpokajhkgnaaW.PrintLast Go.Proofs.YtaimpokajhkgnaaW.PrintMore Go.Proofs.Ytaimpokajhkgnaa.Opens Go.Proofs.Ytaimpokajhkgnaa.Plain
set_option linter.unusedVariables false
set_option linter.unusedSimpArgs false

theorem l1In_f (a b c : Int) : spec_l1In.f a b c = some (decide (b ≤ a ∧ a ≤ c)) := by
  unfold spec_l1In.f
  by_cases h : b ≤ a <;> simp [h]

theorem within_f (a b c : Int) : impl_within.f a b c = some (decide (b ≤ a ∧ a ≤ c)) := by
  unfold impl_within.f
  by_cases h : b ≤ a <;> simp [h]

theorem szIntS_f (l : List Int) (hl : l.length ≤ 9223372036854775807) (a : Int) (h0 : 0 ≤ a) (h1 : a ≤ 1048576) :
    ∃ r, laws_szIntS.f l a = some r ∧ (r < 0 ∨ 0 ≤ r ∧ r + l.length ≤ a) := by
  unfold laws_szIntS.f
  rw [w64 (by omega) (by omega)]
  by_cases c : a - (l.length : Int) < 0
  · exact ⟨-1, by rw [if_pos c], .inl (by omega)⟩
  · exact ⟨a - l.length, by rw [if_neg c], .inr (by omega)⟩

theorem toIntS_ev (l : List Int) (hl : l.length ≤ 1048576) : Ev (fun k => laws_toIntS.f k l) l := by
  have loop : ∀ (d i : Nat), i + d = l.length → Ev (fun k => laws_toIntS.l0 k l ((l.take i).map id ++ List.replicate (l.length - i) 0) i) l := by
    intro d
    induction d with
    | zero =>
      intro i hi
      refine Ev.step (f := fun _ => some l) (fun k => ?_) (Ev.now _)
      rw [laws_toIntS.l0, if_neg (by omega)]
      simp [show l.length - i = 0 by omega, List.take_of_length_le (show l.length ≤ i by omega)]
    | succ d ih =>
      intro i hi
      refine Ev.step (f := fun k => laws_toIntS.l0 k l ((l.take (i + 1)).map id ++ List.replicate (l.length - (i + 1)) 0) ((i + 1 : Nat) : Int)) (fun k => ?_) (ih (i + 1) (by omega))
      rw [laws_toIntS.l0, if_pos (by omega), if_pos (by omega), if_pos (by rw [fill_len _ _ _ _ (by omega)]; omega), rd_get l i (by omega), Int.toNat_natCast, w64_succ (by omega)]
      have e := fill_step id l 0 i (by omega)
      rw [id_eq] at e
      rw [e]
  refine Ev.congr (f := fun k => laws_toIntS.l0 k l (List.replicate l.length 0) 0) (fun k => ?_) ?_
  · rw [laws_toIntS.f, if_pos (by omega), if_pos (by omega)]; rfl
  · have e := loop l.length 0 (by omega)
    simpa using e

theorem eqIntS_ev (l : List Int) (hl : l.length ≤ 140737488355328) : Ev (fun k => laws_eqIntS.f k l l) true := by
  have loop : ∀ (d i : Nat), i + d = l.length → Ev (fun k => laws_eqIntS.l0 k l l i) true := by
    intro d
    induction d with
    | zero =>
      intro i hi
      refine Ev.step (f := fun _ => some true) (fun k => ?_) (Ev.now _)
      rw [laws_eqIntS.l0, if_neg (by omega)]
    | succ d ih =>
      intro i hi
      refine Ev.step (f := fun k => laws_eqIntS.l0 k l l ((i + 1 : Nat) : Int)) (fun k => ?_) (ih (i + 1) (by omega))
      rw [laws_eqIntS.l0, if_pos (by omega), if_pos (by omega), if_pos (by omega), if_pos rfl, w64_succ (by omega)]
  refine Ev.congr (f := fun k => laws_eqIntS.l0 k l l 0) (fun k => ?_) (loop l.length 0 (by omega))
  rw [laws_eqIntS.f, if_pos rfl]

theorem szSubstitution_f (n v : List Int) (hn : n.length ≤ 9223372036854775807) (hv : v.length ≤ 9223372036854775807) (a : Int) (h0 : 0 ≤ a) (h1 : a ≤ 1048576) :
    ∃ r, laws_szSubstitution.f n v a = some r ∧ (r < 0 ∨ 0 ≤ r ∧ r + n.length + v.length ≤ a) := by
  obtain ⟨r, e, h⟩ := szIntS_f n hn a h0 h1
  unfold laws_szSubstitution.f
  rw [e, Option.bind_some]
  rcases h with h | ⟨h, h'⟩
  · exact ⟨-1, by rw [if_pos h], .inl (by omega)⟩
  · obtain ⟨r2, e2, h2⟩ := szIntS_f v hv r h (by omega)
    rw [if_neg (by omega), e2, Option.bind_some]
    rcases h2 with h2 | ⟨h2, h2'⟩
    · exact ⟨-1, by rw [if_pos h2], .inl (by omega)⟩
    · exact ⟨r2, by rw [if_neg (by omega)], .inr (by omega)⟩
theorem toSubstitution_ev (n v : List Int) (hn : n.length ≤ 1048576) (hv : v.length ≤ 1048576) : Ev (fun k => laws_toSubstitution.f k n v) (n, v) := by
  refine Ev.congr (fun k => by rw [laws_toSubstitution.f]) ?_
  exact Ev.bind (toIntS_ev n hn) (Ev.bind (toIntS_ev v hv) (Ev.now _))
theorem eqSubstitution_ev (n v : List Int) (hn : n.length ≤ 140737488355328) (hv : v.length ≤ 140737488355328) : Ev (fun k => laws_eqSubstitution.f k n v n v) true := by
  refine Ev.congr (fun k => by rw [laws_eqSubstitution.f]) ?_
  refine Ev.bind (eqIntS_ev n hn) ?_
  simp only [if_true]
  refine Ev.bind (eqIntS_ev v hv) ?_
  simp only [if_true]
  exact Ev.now _

def vv (x : Int) : Bool := decide (-40 ≤ x ∧ x ≤ 9)
theorem specNullNumber_f (x : Int) (h : GI x) : spec_NullNumber.f x = some (if -40 ≤ x ∧ x ≤ -1 then (-1 - x, true) else (0, false)) := by
  unfold GI at h
  unfold spec_NullNumber.f
  by_cases c : x ≥ 0
  · rw [if_pos c, if_neg (by omega)]
  · have e : wrap64 ((-1) - x) = -1 - x := w64 (by omega) (by omega)
    rw [if_neg c, e, l1In_f]
    simp only [Option.bind_some, decide_eq_true_eq]
    by_cases c2 : -40 ≤ x ∧ x ≤ -1
    · rw [if_pos c2, if_pos (by omega)]
    · rw [if_neg c2, if_neg (by omega)]
theorem specIsValidValue_f (x : Int) (h : GI x) : spec_IsValidValue.f x = some (vv x) := by
  unfold spec_IsValidValue.f vv
  rw [specNullNumber_f x h, Option.bind_some, l1In_f]
  by_cases c2 : -40 ≤ x ∧ x ≤ -1
  · rw [if_pos c2, if_pos rfl]; exact congrArg some (decide_eq_true (by omega)).symm
  · rw [if_neg c2, if_neg (by simp), Option.bind_some]; exact congrArg some (decide_eq_decide.2 (by omega))

theorem implIsValidValue_f (x : Int) : impl_IsValidValue.f x = some (vv x) := by
  unfold impl_IsValidValue.f vv
  rw [within_f, Option.bind_some]

/-- From place i on (d places): each null in range, above the one before it, its value valid. -/
def okSub (n v : List Int) (i : Nat) : Nat → Bool
  | 0 => true
  | d + 1 => decide (0 ≤ n.getD i 0 ∧ n.getD i 0 ≤ 39) && (decide (i = 0) || decide (n.getD (i - 1) 0 < n.getD i 0)) && vv (v.getD i 0) && okSub n v (i + 1) d
def validSub (n v : List Int) : Bool := decide (n.length = v.length) && okSub n v 0 n.length
theorem rd_nat (l : List Int) (i : Nat) : rd l (i : Int) = l.getD i 0 := by unfold rd; rw [Int.toNat_natCast]
theorem gi_getD {l : List Int} (h : ∀ x ∈ l, GI x) (i : Nat) : GI (l.getD i 0) := by
  by_cases c : i < l.length
  · have : l.getD i 0 = l[i] := by simp [List.getD_eq_getElem?_getD, c]
    rw [this]; exact h _ (List.getElem_mem c)
  · have : l.getD i 0 = 0 := by simp [List.getD_eq_getElem?_getD, List.getElem?_eq_none (show l.length ≤ i by omega)]
    rw [this]; unfold GI; omega
theorem specValidSub_ev (n v : List Int) (hl : n.length ≤ 140737488355328) (hv : ∀ x ∈ v, GI x) : Ev (fun k => spec_IsValidSubstitution.f k n v) (validSub n v) := by
  unfold validSub
  by_cases c : n.length = v.length
  · have loop : ∀ (d i : Nat), i + d = n.length → Ev (fun k => spec_IsValidSubstitution.l0 k i n v) (okSub n v i d) := by
      intro d
      induction d with
      | zero =>
        intro i hi
        refine Ev.step (f := fun _ => some true) (fun k => ?_) (Ev.now _)
        rw [spec_IsValidSubstitution.l0, if_neg (by omega)]
      | succ d ih =>
        intro i hi
        have e := ih (i + 1) (by omega)
        refine Ev.step (f := fun k => if okSub n v i 1 = true then spec_IsValidSubstitution.l0 k ((i + 1 : Nat) : Int) n v else some false) (fun k => ?_) ?_
        · rw [spec_IsValidSubstitution.l0, if_pos (by omega), if_pos (by omega), l1In_f, rd_nat, rd_nat, specIsValidValue_f _ (gi_getD hv i), w64_succ (by omega)]
          simp only [Option.bind_some, decide_eq_true_eq, okSub, Bool.and_true]
          by_cases c1 : 0 ≤ n.getD i 0 ∧ n.getD i 0 ≤ 39
          · rw [if_pos c1]
            by_cases c2 : i = 0
            · rw [if_neg (by omega), if_pos (by omega)]
              rw [c2] at c1
              simp only [c1, c2, and_self, decide_true, Bool.true_and, Bool.true_or]
            · rw [if_pos (by omega), w64 (by omega) (by omega), if_pos (by omega), if_pos (by omega), show ((i : Int) - 1) = ((i - 1 : Nat) : Int) by omega, rd_nat]
              by_cases c3 : n.getD i 0 ≤ n.getD (i - 1) 0
              · rw [if_pos c3, if_neg]
                simp only [Bool.and_eq_true, Bool.or_eq_true, decide_eq_true_eq]; omega
              · rw [if_neg c3, if_pos (by omega)]
                have c4 : n.getD (i - 1) 0 < n.getD i 0 := by omega
                simp only [c1, c4, and_self, decide_true, Bool.true_and, Bool.or_true]
          · rw [if_neg c1, if_neg]
            simp only [Bool.and_eq_true, Bool.or_eq_true, decide_eq_true_eq]; omega
        · have ho : okSub n v i (d + 1) = (okSub n v i 1 && okSub n v (i + 1) d) := by simp [okSub]
          rw [ho]
          cases h1 : okSub n v i 1 with
          | true => simpa using e
          | false => simpa using Ev.now false
    refine Ev.congr (f := fun k => spec_IsValidSubstitution.l0 k 0 n v) (fun k => ?_) ?_
    · rw [spec_IsValidSubstitution.f, if_pos (by omega)]
    · rw [decide_eq_true c, Bool.true_and]; exact loop n.length 0 (by omega)
  · refine Ev.congr (f := fun _ => some false) (fun k => ?_) ?_
    · rw [spec_IsValidSubstitution.f, if_neg (by omega)]
    · rw [decide_eq_false c, Bool.false_and]; exact Ev.now _

theorem implValidSub_ev (n v : List Int) (hl : n.length ≤ 140737488355328) : Ev (fun k => impl_IsValidSubstitution.f k n v) (validSub n v) := by
  unfold validSub
  by_cases c : n.length = v.length
  · have loop : ∀ (d i : Nat), i + d = n.length → Ev (fun k => impl_IsValidSubstitution.l0 k n n.length i n v) (okSub n v i d) := by
      intro d
      induction d with
      | zero =>
        intro i hi
        refine Ev.step (f := fun _ => some true) (fun k => ?_) (Ev.now _)
        rw [impl_IsValidSubstitution.l0, if_neg (by omega)]
      | succ d ih =>
        intro i hi
        have e := ih (i + 1) (by omega)
        refine Ev.step (f := fun k => if okSub n v i 1 = true then impl_IsValidSubstitution.l0 k n n.length ((i + 1 : Nat) : Int) n v else some false) (fun k => ?_) ?_
        · rw [impl_IsValidSubstitution.l0, if_pos (by omega), if_pos (by omega), if_pos (by omega), within_f, rd_nat, rd_nat, implIsValidValue_f, w64_succ (by omega)]
          simp only [Option.bind_some, decide_eq_true_eq, okSub, Bool.and_true]
          by_cases c1 : 0 ≤ n.getD i 0 ∧ n.getD i 0 ≤ 39
          · rw [if_pos c1]
            by_cases c2 : i = 0
            · rw [if_neg (by omega), if_pos (by omega)]
              rw [c2] at c1
              simp only [c1, c2, and_self, decide_true, Bool.true_and, Bool.true_or]
            · rw [if_pos (by omega), w64 (by omega) (by omega), if_pos (by omega), if_pos (by omega), show ((i : Int) - 1) = ((i - 1 : Nat) : Int) by omega, rd_nat]
              by_cases c3 : n.getD i 0 ≤ n.getD (i - 1) 0
              · rw [if_pos c3, if_neg]
                simp only [Bool.and_eq_true, Bool.or_eq_true, decide_eq_true_eq]; omega
              · rw [if_neg c3, if_pos (by omega)]
                have c4 : n.getD (i - 1) 0 < n.getD i 0 := by omega
                simp only [c1, c4, and_self, decide_true, Bool.true_and, Bool.or_true]
          · rw [if_neg c1, if_neg]
            simp only [Bool.and_eq_true, Bool.or_eq_true, decide_eq_true_eq]; omega
        · have ho : okSub n v i (d + 1) = (okSub n v i 1 && okSub n v (i + 1) d) := by simp [okSub]
          rw [ho]
          cases h1 : okSub n v i 1 with
          | true => simpa using e
          | false => simpa using Ev.now false
    refine Ev.congr (f := fun k => impl_IsValidSubstitution.l0 k n n.length 0 n v) (fun k => ?_) ?_
    · rw [impl_IsValidSubstitution.f, if_pos (by omega)]
    · rw [decide_eq_true c, Bool.true_and]; exact loop n.length 0 (by omega)
  · refine Ev.congr (f := fun _ => some false) (fun k => ?_) ?_
    · rw [impl_IsValidSubstitution.f, if_neg (by omega)]
    · rw [decide_eq_false c, Bool.false_and]; exact Ev.now _

theorem FnExactIsValidSubstitution (l0_0 : List Int) (l0_1 : List Int) (g0_0 : (GL GI) l0_0) (g0_1 : (GL GI) l0_1) : ∃ k, laws_FnExactIsValidSubstitution.f k l0_0 l0_1 = some true := by
  obtain ⟨r, e, h⟩ := szSubstitution_f l0_0 l0_1 g0_0.1 g0_1.1 1048576 (by omega) (by omega)
  refine Ev.rounds (r := true) (Ev.congr (fun k => by rw [laws_FnExactIsValidSubstitution.f, e, Option.bind_some]) ?_)
  rcases h with h | h
  · simp only [h, if_true]; exact Ev.now _
  · simp only [show ¬ r < 0 by omega, if_false]
    refine Ev.bind (toSubstitution_ev _ _ (by omega) (by omega)) (Ev.bind (specValidSub_ev l0_0 l0_1 (by omega) g0_1.2) (Ev.bind (toSubstitution_ev _ _ (by omega) (by omega)) (Ev.bind (implValidSub_ev l0_0 l0_1 (by omega)) ?_)))
    simp only [bne_self_eq_false, Bool.false_eq_true, if_false]
    refine Ev.bind (toSubstitution_ev _ _ (by omega) (by omega)) (Ev.bind (eqSubstitution_ev l0_0 l0_1 (by omega) (by omega)) ?_)
    simp only [if_true]
    exact Ev.now _

end Go.Proofs.Ytaimpokajhkgnaa.Pure
