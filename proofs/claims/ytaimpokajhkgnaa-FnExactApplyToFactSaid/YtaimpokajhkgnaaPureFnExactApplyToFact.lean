/- ApplyToFact of the program and of the reference agree, for every substitution and fact; what it hands back lies apart (past the law's own size bound it answers true itself). -/
import Derived.Test.YtaimpokajhkgnaaPFnExactApplyToFactx1
import Derived.Test.YtaimpokajhkgnaaPFnExactApplyToFactx2
import Derived.Test.YtaimpokajhkgnaaPFnExactApplyToFactx3
import Derived.Test.YtaimpokajhkgnaaPFnExactApplyToFactx4
import Derived.Test.YtaimpokajhkgnaaPFnExactApplyToFactx5
import Derived.Test.YtaimpokajhkgnaaPFnExactApplyToFactx6
import Derived.Test.YtaimpokajhkgnaaOpens
import Derived.Test.YtaimpokajhkgnaaPlain
namespace Go.Proofs.Ytaimpokajhkgnaa.Pure
open Go.RowKit Go.Proofs.Ytaimpokajhkgnaa.PFnExactApplyToFact Go.Proofs.YtaimpokajhkgnaaW.PrintWords Go.Proofs.YtaimpokajhkgnaaW.PrintLast Go.Proofs.YtaimpokajhkgnaaW.PrintMore Go.Proofs.Ytaimpokajhkgnaa.Opens Go.Proofs.Ytaimpokajhkgnaa.Plain
set_option linter.unusedVariables false
set_option linter.unusedSimpArgs false

theorem l1In_f (a b c : Int) : spec_l1In.f a b c = some (decide (b ≤ a ∧ a ≤ c)) := by
  unfold spec_l1In.f
  by_cases h : b ≤ a <;> simp [h]

theorem within_f (a b c : Int) : impl_within.f a b c = some (decide (b ≤ a ∧ a ≤ c)) := by
  unfold impl_within.f
  by_cases h : b ≤ a <;> simp [h]

theorem szIntS_f (l : List Int) (hl : l.length ≤ 9223372036854775807) (a : Int) (h0 : 0 ≤ a) (h1 : a ≤ 1048576) :
    ∃ r, laws_szIntS.f l a = some r ∧ (r < 0 ∨ 0 ≤ r ∧ r + l.length ≤ a) := by
  unfold laws_szIntS.f
  rw [w64 (by omega) (by omega)]
  by_cases c : a - (l.length : Int) < 0
  · exact ⟨-1, by rw [if_pos c], .inl (by omega)⟩
  · exact ⟨a - l.length, by rw [if_neg c], .inr (by omega)⟩

theorem toIntS_ev (l : List Int) (hl : l.length ≤ 1048576) : Ev (fun k => laws_toIntS.f k l) l := by
  have loop : ∀ (d i : Nat), i + d = l.length → Ev (fun k => laws_toIntS.l0 k l ((l.take i).map id ++ List.replicate (l.length - i) 0) i) l := by
    intro d
    induction d with
    | zero =>
      intro i hi
      refine Ev.step (f := fun _ => some l) (fun k => ?_) (Ev.now _)
      rw [laws_toIntS.l0, if_neg (by omega)]
      simp [show l.length - i = 0 by omega, List.take_of_length_le (show l.length ≤ i by omega)]
    | succ d ih =>
      intro i hi
      refine Ev.step (f := fun k => laws_toIntS.l0 k l ((l.take (i + 1)).map id ++ List.replicate (l.length - (i + 1)) 0) ((i + 1 : Nat) : Int)) (fun k => ?_) (ih (i + 1) (by omega))
      rw [laws_toIntS.l0, if_pos (by omega), if_pos (by omega), if_pos (by rw [fill_len _ _ _ _ (by omega)]; omega), rd_get l i (by omega), Int.toNat_natCast, w64_succ (by omega)]
      have e := fill_step id l 0 i (by omega)
      rw [id_eq] at e
      rw [e]
  refine Ev.congr (f := fun k => laws_toIntS.l0 k l (List.replicate l.length 0) 0) (fun k => ?_) ?_
  · rw [laws_toIntS.f, if_pos (by omega), if_pos (by omega)]; rfl
  · have e := loop l.length 0 (by omega)
    simpa using e

theorem eqIntS_ev (l : List Int) (hl : l.length ≤ 140737488355328) : Ev (fun k => laws_eqIntS.f k l l) true := by
  have loop : ∀ (d i : Nat), i + d = l.length → Ev (fun k => laws_eqIntS.l0 k l l i) true := by
    intro d
    induction d with
    | zero =>
      intro i hi
      refine Ev.step (f := fun _ => some true) (fun k => ?_) (Ev.now _)
      rw [laws_eqIntS.l0, if_neg (by omega)]
    | succ d ih =>
      intro i hi
      refine Ev.step (f := fun k => laws_eqIntS.l0 k l l ((i + 1 : Nat) : Int)) (fun k => ?_) (ih (i + 1) (by omega))
      rw [laws_eqIntS.l0, if_pos (by omega), if_pos (by omega), if_pos (by omega), if_pos rfl, w64_succ (by omega)]
  refine Ev.congr (f := fun k => laws_eqIntS.l0 k l l 0) (fun k => ?_) (loop l.length 0 (by omega))
  rw [laws_eqIntS.f, if_pos rfl]

theorem szSubstitution_f (n v : List Int) (hn : n.length ≤ 9223372036854775807) (hv : v.length ≤ 9223372036854775807) (a : Int) (h0 : 0 ≤ a) (h1 : a ≤ 1048576) :
    ∃ r, laws_szSubstitution.f n v a = some r ∧ (r < 0 ∨ 0 ≤ r ∧ r + n.length + v.length ≤ a) := by
  obtain ⟨r, e, h⟩ := szIntS_f n hn a h0 h1
  unfold laws_szSubstitution.f
  rw [e, Option.bind_some]
  rcases h with h | ⟨h, h'⟩
  · exact ⟨-1, by rw [if_pos h], .inl (by omega)⟩
  · obtain ⟨r2, e2, h2⟩ := szIntS_f v hv r h (by omega)
    rw [if_neg (by omega), e2, Option.bind_some]
    rcases h2 with h2 | ⟨h2, h2'⟩
    · exact ⟨-1, by rw [if_pos h2], .inl (by omega)⟩
    · exact ⟨r2, by rw [if_neg (by omega)], .inr (by omega)⟩
theorem toSubstitution_ev (n v : List Int) (hn : n.length ≤ 1048576) (hv : v.length ≤ 1048576) : Ev (fun k => laws_toSubstitution.f k n v) (n, v) := by
  refine Ev.congr (fun k => by rw [laws_toSubstitution.f]) ?_
  exact Ev.bind (toIntS_ev n hn) (Ev.bind (toIntS_ev v hv) (Ev.now _))
theorem eqSubstitution_ev (n v : List Int) (hn : n.length ≤ 140737488355328) (hv : v.length ≤ 140737488355328) : Ev (fun k => laws_eqSubstitution.f k n v n v) true := by
  refine Ev.congr (fun k => by rw [laws_eqSubstitution.f]) ?_
  refine Ev.bind (eqIntS_ev n hn) ?_
  simp only [if_true]
  refine Ev.bind (eqIntS_ev v hv) ?_
  simp only [if_true]
  exact Ev.now _

theorem szFact_f (r : Int) (v : List Int) (hv : v.length ≤ 9223372036854775807) (a : Int) (h0 : 0 ≤ a) (h1 : a ≤ 1048576) :
    ∃ s, laws_szFact.f r v a = some s ∧ (s < 0 ∨ 0 ≤ s ∧ s + v.length ≤ a) := by
  obtain ⟨s, e, h⟩ := szIntS_f v hv a h0 h1
  unfold laws_szFact.f
  rw [e, Option.bind_some]
  rcases h with h | h
  · exact ⟨-1, by rw [if_pos h], .inl (by omega)⟩
  · exact ⟨s, by rw [if_neg (by omega)], .inr h⟩
theorem toFact_ev (r : Int) (v : List Int) (hv : v.length ≤ 1048576) : Ev (fun k => laws_toFact.f k r v) (r, v) := by
  refine Ev.congr (fun k => by rw [laws_toFact.f]) ?_
  exact Ev.bind (toIntS_ev v hv) (Ev.now _)
theorem eqFact_ev (r : Int) (v : List Int) (hv : v.length ≤ 140737488355328) : Ev (fun k => laws_eqFact.f k r v r v) true := by
  refine Ev.congr (fun k => by rw [laws_eqFact.f, if_pos rfl]) ?_
  refine Ev.bind (eqIntS_ev v hv) ?_
  simp only [if_true]
  exact Ev.now _

def vv (x : Int) : Bool := decide (-40 ≤ x ∧ x ≤ 9)
theorem specNullNumber_f (x : Int) (h : GI x) : spec_NullNumber.f x = some (if -40 ≤ x ∧ x ≤ -1 then (-1 - x, true) else (0, false)) := by
  unfold GI at h
  unfold spec_NullNumber.f
  by_cases c : x ≥ 0
  · rw [if_pos c, if_neg (by omega)]
  · have e : wrap64 ((-1) - x) = -1 - x := w64 (by omega) (by omega)
    rw [if_neg c, e, l1In_f]
    simp only [Option.bind_some, decide_eq_true_eq]
    by_cases c2 : -40 ≤ x ∧ x ≤ -1
    · rw [if_pos c2, if_pos (by omega)]
    · rw [if_neg c2, if_neg (by omega)]
theorem specIsValidValue_f (x : Int) (h : GI x) : spec_IsValidValue.f x = some (vv x) := by
  unfold spec_IsValidValue.f vv
  rw [specNullNumber_f x h, Option.bind_some, l1In_f]
  by_cases c2 : -40 ≤ x ∧ x ≤ -1
  · rw [if_pos c2, if_pos rfl]; exact congrArg some (decide_eq_true (by omega)).symm
  · rw [if_neg c2, if_neg (by simp), Option.bind_some]; exact congrArg some (decide_eq_decide.2 (by omega))

theorem implIsValidValue_f (x : Int) : impl_IsValidValue.f x = some (vv x) := by
  unfold impl_IsValidValue.f vv
  rw [within_f, Option.bind_some]

theorem implNullNumber_f (x : Int) (h : GI x) : impl_NullNumber.f x = some (if -40 ≤ x ∧ x ≤ -1 then (-1 - x, true) else (0, false)) := by
  unfold GI at h
  unfold impl_NullNumber.f
  rw [within_f]
  simp only [Option.bind_some, decide_eq_true_eq]
  have e : wrap64 ((-1) - x) = -1 - x := w64 (by omega) (by omega)
  rw [e]
  by_cases c2 : -40 ≤ x ∧ x ≤ -1
  · rw [if_pos c2, if_pos (by omega)]
  · rw [if_neg c2, if_neg (by omega)]

/-- From place i on (d places): each null in range, above the one before it, its value valid. -/
def okSub (n v : List Int) (i : Nat) : Nat → Bool
  | 0 => true
  | d + 1 => decide (0 ≤ n.getD i 0 ∧ n.getD i 0 ≤ 39) && (decide (i = 0) || decide (n.getD (i - 1) 0 < n.getD i 0)) && vv (v.getD i 0) && okSub n v (i + 1) d
def validSub (n v : List Int) : Bool := decide (n.length = v.length) && okSub n v 0 n.length
theorem rd_nat (l : List Int) (i : Nat) : rd l (i : Int) = l.getD i 0 := by unfold rd; rw [Int.toNat_natCast]
theorem gi_getD {l : List Int} (h : ∀ x ∈ l, GI x) (i : Nat) : GI (l.getD i 0) := by
  by_cases c : i < l.length
  · have : l.getD i 0 = l[i] := by simp [List.getD_eq_getElem?_getD, c]
    rw [this]; exact h _ (List.getElem_mem c)
  · have : l.getD i 0 = 0 := by simp [List.getD_eq_getElem?_getD, List.getElem?_eq_none (show l.length ≤ i by omega)]
    rw [this]; unfold GI; omega
theorem specValidSub_ev (n v : List Int) (hl : n.length ≤ 140737488355328) (hv : ∀ x ∈ v, GI x) : Ev (fun k => spec_IsValidSubstitution.f k n v) (validSub n v) := by
  unfold validSub
  by_cases c : n.length = v.length
  · have loop : ∀ (d i : Nat), i + d = n.length → Ev (fun k => spec_IsValidSubstitution.l0 k i n v) (okSub n v i d) := by
      intro d
      induction d with
      | zero =>
        intro i hi
        refine Ev.step (f := fun _ => some true) (fun k => ?_) (Ev.now _)
        rw [spec_IsValidSubstitution.l0, if_neg (by omega)]
      | succ d ih =>
        intro i hi
        have e := ih (i + 1) (by omega)
        refine Ev.step (f := fun k => if okSub n v i 1 = true then spec_IsValidSubstitution.l0 k ((i + 1 : Nat) : Int) n v else some false) (fun k => ?_) ?_
        · rw [spec_IsValidSubstitution.l0, if_pos (by omega), if_pos (by omega), l1In_f, rd_nat, rd_nat, specIsValidValue_f _ (gi_getD hv i), w64_succ (by omega)]
          simp only [Option.bind_some, decide_eq_true_eq, okSub, Bool.and_true]
          by_cases c1 : 0 ≤ n.getD i 0 ∧ n.getD i 0 ≤ 39
          · rw [if_pos c1]
            by_cases c2 : i = 0
            · rw [if_neg (by omega), if_pos (by omega)]
              rw [c2] at c1
              simp only [c1, c2, and_self, decide_true, Bool.true_and, Bool.true_or]
            · rw [if_pos (by omega), w64 (by omega) (by omega), if_pos (by omega), if_pos (by omega), show ((i : Int) - 1) = ((i - 1 : Nat) : Int) by omega, rd_nat]
              by_cases c3 : n.getD i 0 ≤ n.getD (i - 1) 0
              · rw [if_pos c3, if_neg]
                simp only [Bool.and_eq_true, Bool.or_eq_true, decide_eq_true_eq]; omega
              · rw [if_neg c3, if_pos (by omega)]
                have c4 : n.getD (i - 1) 0 < n.getD i 0 := by omega
                simp only [c1, c4, and_self, decide_true, Bool.true_and, Bool.or_true]
          · rw [if_neg c1, if_neg]
            simp only [Bool.and_eq_true, Bool.or_eq_true, decide_eq_true_eq]; omega
        · have ho : okSub n v i (d + 1) = (okSub n v i 1 && okSub n v (i + 1) d) := by simp [okSub]
          rw [ho]
          cases h1 : okSub n v i 1 with
          | true => simpa using e
          | false => simpa using Ev.now false
    refine Ev.congr (f := fun k => spec_IsValidSubstitution.l0 k 0 n v) (fun k => ?_) ?_
    · rw [spec_IsValidSubstitution.f, if_pos (by omega)]
    · rw [decide_eq_true c, Bool.true_and]; exact loop n.length 0 (by omega)
  · refine Ev.congr (f := fun _ => some false) (fun k => ?_) ?_
    · rw [spec_IsValidSubstitution.f, if_neg (by omega)]
    · rw [decide_eq_false c, Bool.false_and]; exact Ev.now _

theorem implValidSub_ev (n v : List Int) (hl : n.length ≤ 140737488355328) : Ev (fun k => impl_IsValidSubstitution.f k n v) (validSub n v) := by
  unfold validSub
  by_cases c : n.length = v.length
  · have loop : ∀ (d i : Nat), i + d = n.length → Ev (fun k => impl_IsValidSubstitution.l0 k n n.length i n v) (okSub n v i d) := by
      intro d
      induction d with
      | zero =>
        intro i hi
        refine Ev.step (f := fun _ => some true) (fun k => ?_) (Ev.now _)
        rw [impl_IsValidSubstitution.l0, if_neg (by omega)]
      | succ d ih =>
        intro i hi
        have e := ih (i + 1) (by omega)
        refine Ev.step (f := fun k => if okSub n v i 1 = true then impl_IsValidSubstitution.l0 k n n.length ((i + 1 : Nat) : Int) n v else some false) (fun k => ?_) ?_
        · rw [impl_IsValidSubstitution.l0, if_pos (by omega), if_pos (by omega), if_pos (by omega), within_f, rd_nat, rd_nat, implIsValidValue_f, w64_succ (by omega)]
          simp only [Option.bind_some, decide_eq_true_eq, okSub, Bool.and_true]
          by_cases c1 : 0 ≤ n.getD i 0 ∧ n.getD i 0 ≤ 39
          · rw [if_pos c1]
            by_cases c2 : i = 0
            · rw [if_neg (by omega), if_pos (by omega)]
              rw [c2] at c1
              simp only [c1, c2, and_self, decide_true, Bool.true_and, Bool.true_or]
            · rw [if_pos (by omega), w64 (by omega) (by omega), if_pos (by omega), if_pos (by omega), show ((i : Int) - 1) = ((i - 1 : Nat) : Int) by omega, rd_nat]
              by_cases c3 : n.getD i 0 ≤ n.getD (i - 1) 0
              · rw [if_pos c3, if_neg]
                simp only [Bool.and_eq_true, Bool.or_eq_true, decide_eq_true_eq]; omega
              · rw [if_neg c3, if_pos (by omega)]
                have c4 : n.getD (i - 1) 0 < n.getD i 0 := by omega
                simp only [c1, c4, and_self, decide_true, Bool.true_and, Bool.or_true]
          · rw [if_neg c1, if_neg]
            simp only [Bool.and_eq_true, Bool.or_eq_true, decide_eq_true_eq]; omega
        · have ho : okSub n v i (d + 1) = (okSub n v i 1 && okSub n v (i + 1) d) := by simp [okSub]
          rw [ho]
          cases h1 : okSub n v i 1 with
          | true => simpa using e
          | false => simpa using Ev.now false
    refine Ev.congr (f := fun k => impl_IsValidSubstitution.l0 k n n.length 0 n v) (fun k => ?_) ?_
    · rw [impl_IsValidSubstitution.f, if_pos (by omega)]
    · rw [decide_eq_true c, Bool.true_and]; exact loop n.length 0 (by omega)
  · refine Ev.congr (f := fun _ => some false) (fun k => ?_) ?_
    · rw [impl_IsValidSubstitution.f, if_neg (by omega)]
    · rw [decide_eq_false c, Bool.false_and]; exact Ev.now _

/-- What ApplyToValue answers: the value of the first null that stands for v, if the substitution is valid. -/
def look (n v : List Int) (x : Int) (i : Nat) : Nat → Int
  | 0 => x
  | d + 1 => if -1 - n.getD i 0 = x then v.getD i 0 else look n v x (i + 1) d
def applyV (n v : List Int) (x : Int) : Int := if validSub n v = true then look n v x 0 n.length else x
theorem okSub_range (n v : List Int) (d : Nat) : ∀ i, okSub n v i d = true → ∀ j, i ≤ j → j < i + d → 0 ≤ n.getD j 0 ∧ n.getD j 0 ≤ 39 ∧ vv (v.getD j 0) = true := by
  induction d with
  | zero => intro i _ j h1 h2; omega
  | succ d ih =>
    intro i h j h1 h2
    rw [okSub] at h
    simp only [Bool.and_eq_true, decide_eq_true_eq] at h
    by_cases c : j = i
    · subst c; exact ⟨h.1.1.1.1, h.1.1.1.2, h.1.2⟩
    · exact ih (i + 1) h.2 j (by omega) (by omega)
theorem specApplyV_ev (n v : List Int) (x : Int) (hn : n.length ≤ 1048576) (gn : ∀ y ∈ n, GI y) (gv : ∀ y ∈ v, GI y) (hx : GI x) : Ev (fun k => spec_ApplyToValue.f k n v x) (applyV n v x) := by
  unfold applyV
  have hval := specValidSub_ev n v (by omega) gv
  refine Ev.congr (fun k => by rw [spec_ApplyToValue.f]) ?_
  by_cases c : validSub n v = true
  · rw [c] at hval
    simp only [c, if_true]
    have hlen : n.length = v.length := by unfold validSub at c; simp only [Bool.and_eq_true, decide_eq_true_eq] at c; exact c.1
    have hok := okSub_range n v n.length 0 (by unfold validSub at c; simp only [Bool.and_eq_true] at c; exact c.2)
    have loop : ∀ (d i : Nat), i + d = n.length → Ev (fun k => spec_ApplyToValue.l0 k x i n v) (look n v x i d) := by
      intro d
      induction d with
      | zero =>
        intro i hi
        refine Ev.step (f := fun k => spec_ApplyToValue.j1 k x i false n v) (fun k => ?_) (Ev.step (f := fun _ => some x) (fun k => ?_) (Ev.now _))
        · rw [spec_ApplyToValue.l0, if_neg (by omega)]
        · rw [spec_ApplyToValue.j1, if_neg (by simp)]
      | succ d ih =>
        intro i hi
        have e := ih (i + 1) (by omega)
        have hr := hok i (by omega) (by omega)
        refine Ev.step (f := fun k => (spec_IsValidSubstitution.f k n v).bind fun t => spec_ApplyToValue.j1 k x i t n v) (fun k => ?_) (Ev.bind hval ?_)
        · rw [spec_ApplyToValue.l0, if_pos (by omega)]
        · have hg := gi_getD gn i
          unfold GI at hg
          refine Ev.step (f := fun k => if -1 - n.getD i 0 = x then some (v.getD i 0) else spec_ApplyToValue.l0 k x ((i + 1 : Nat) : Int) n v) (fun k => ?_) ?_
          · rw [spec_ApplyToValue.j1, if_pos rfl, if_pos (by omega), if_pos (by omega), spec_NullValue.f, rd_nat, rd_nat, Option.bind_some, w64 (by omega) (by omega), w64_succ (by omega), if_pos (by omega : (i : Int) < (v.length : Int))]
          · rw [look]
            by_cases e2 : -1 - n.getD i 0 = x
            · simp only [e2, if_true]; exact Ev.now _
            · simp only [e2, if_false]; exact e
    exact loop n.length 0 (by omega)
  · simp only [c, if_false]
    have cf : validSub n v = false := by simpa using c
    rw [cf] at hval
    by_cases c0 : n.length = 0
    · refine Ev.step (f := fun k => spec_ApplyToValue.j1 k x 0 false n v) (fun k => ?_) (Ev.step (f := fun _ => some x) (fun k => ?_) (Ev.now _))
      · rw [spec_ApplyToValue.l0, if_neg (by omega)]
      · rw [spec_ApplyToValue.j1, if_neg (by simp)]
    · refine Ev.step (f := fun k => (spec_IsValidSubstitution.f k n v).bind fun t => spec_ApplyToValue.j1 k x 0 t n v) (fun k => ?_) (Ev.bind hval (Ev.step (f := fun _ => some x) (fun k => ?_) (Ev.now _)))
      · rw [spec_ApplyToValue.l0, if_pos (by omega)]
      · rw [spec_ApplyToValue.j1, if_neg (by simp)]

/-- The place of the first x from place i on, or -1. -/
def idxI (l : List Int) (x : Int) (i : Nat) : Nat → Int
  | 0 => -1
  | d + 1 => if x = l.getD i 0 then (i : Int) else idxI l x (i + 1) d
theorem indexInt_ev (l : List Int) (x : Int) (hl : l.length ≤ 140737488355328) : Ev (fun k => slices_Index_int_int.f k l x) (idxI l x 0 l.length) := by
  have loop : ∀ (d i : Nat), i + d = l.length → Ev (fun k => slices_Index_int_int.l0 k l x l.length i) (idxI l x i d) := by
    intro d
    induction d with
    | zero =>
      intro i hi
      refine Ev.step (f := fun _ => some (-1)) (fun k => ?_) (Ev.now _)
      rw [slices_Index_int_int.l0, if_neg (by omega)]
    | succ d ih =>
      intro i hi
      refine Ev.step (f := fun k => if x = l.getD i 0 then some (i : Int) else slices_Index_int_int.l0 k l x l.length ((i + 1 : Nat) : Int)) (fun k => ?_) ?_
      · rw [slices_Index_int_int.l0, if_pos (by omega), if_pos (by omega), if_pos (by omega), rd_nat, w64_succ (by omega)]
      · rw [idxI]
        by_cases e2 : x = l.getD i 0
        · simp only [e2, if_true]; exact Ev.now _
        · simp only [e2, if_false]; exact ih (i + 1) (by omega)
  exact Ev.congr (fun k => by rw [slices_Index_int_int.f]; rfl) (loop l.length 0 (by omega))
/-- Index and look: the place that the one finds is the place where the other stops. -/
theorem look_idx (n v : List Int) (x : Int) (d : Nat) : ∀ i, look n v x i d = if idxI n (-1 - x) i d < 0 then x else v.getD (idxI n (-1 - x) i d).toNat 0 := by
  induction d with
  | zero => intro i; simp [look, idxI]
  | succ d ih =>
    intro i
    rw [look, idxI]
    by_cases c : -1 - n.getD i 0 = x
    · rw [if_pos c, if_pos (show -1 - x = n.getD i 0 by omega), if_neg (show ¬ (i : Int) < 0 by omega), Int.toNat_natCast]
    · rw [if_neg c, if_neg (show ¬ -1 - x = n.getD i 0 by omega), ih]
theorem idx_range (n : List Int) (x : Int) (d : Nat) : ∀ i, 0 ≤ idxI n x i d → i ≤ (idxI n x i d).toNat ∧ (idxI n x i d).toNat < i + d ∧ n.getD (idxI n x i d).toNat 0 = x := by
  induction d with
  | zero => intro i h; simp [idxI] at h
  | succ d ih =>
    intro i h
    rw [idxI] at h ⊢
    by_cases c : x = n.getD i 0
    · rw [if_pos c]; exact ⟨by simp, by simp, by rw [Int.toNat_natCast, c]⟩
    · rw [if_neg c] at h ⊢
      obtain ⟨h1, h2, h3⟩ := ih (i + 1) h
      exact ⟨by omega, by omega, h3⟩

theorem implApplyV_ev (n v : List Int) (x : Int) (hn : n.length ≤ 1048576) (hx : GI x) : Ev (fun k => impl_ApplyToValue.f k n v x) (applyV n v x) := by
  have hg : -9223372036854775808 ≤ x ∧ x ≤ 9223372036854775807 := hx
  refine Ev.congr (fun k => by rw [impl_ApplyToValue.f, implNullNumber_f x hx, Option.bind_some]) ?_
  refine Ev.bind (indexInt_ev n _ (by omega)) ?_
  by_cases c : -40 ≤ x ∧ x ≤ -1
  · simp only [c, and_self, if_true]
    have hli := look_idx n v x n.length 0
    by_cases c2 : idxI n (-1 - x) 0 n.length < 0
    · simp only [c2, if_true]
      have : applyV n v x = x := by unfold applyV; split
                                    · rw [hli, if_pos c2]
                                    · rfl
      rw [this]; exact Ev.now _
    · simp only [c2, if_false]
      refine Ev.bind (implValidSub_ev n v (by omega)) ?_
      have hr := idx_range n (-1 - x) n.length 0 (by omega)
      unfold applyV
      by_cases c3 : validSub n v = true
      · have hlen : n.length = v.length := by unfold validSub at c3; simp only [Bool.and_eq_true, decide_eq_true_eq] at c3; exact c3.1
        simp only [c3, if_true]
        rw [hli, if_neg c2]
        refine Ev.congr (f := fun _ => some (v.getD (idxI n (-1 - x) 0 n.length).toNat 0)) (fun k => ?_) (Ev.now _)
        rw [if_pos (by omega), if_pos (by omega)]
        unfold rd
        rfl
      · simp only [c3, if_false]; exact Ev.now _
  · simp only [c, if_false, Bool.false_eq_true]
    have : applyV n v x = x := by
      unfold applyV
      by_cases c3 : validSub n v = true
      · rw [if_pos c3]
        have hok := okSub_range n v n.length 0 (by unfold validSub at c3; simp only [Bool.and_eq_true] at c3; exact c3.2)
        have hl := look_idx n v x n.length 0
        rw [hl]
        by_cases c4 : idxI n (-1 - x) 0 n.length < 0
        · rw [if_pos c4]
        · exfalso
          obtain ⟨h1, h2, h3⟩ := idx_range n (-1 - x) n.length 0 (by omega)
          have := hok _ h1 h2
          omega
      · rw [if_neg c3]
    rw [this]; exact Ev.now _

/-- The numbers from a on, n of them. -/
def seqI (a : Int) (n : Nat) : List Int := (List.range n).map (fun i : Nat => a + (i : Int))
theorem seqI_len (a : Int) (n : Nat) : (seqI a n).length = n := by unfold seqI; simp
theorem seqI_step (a : Int) (l : List Int) (i : Nat) (h : i < l.length) : (seqI a i ++ l.drop i).set i (a + i) = seqI a (i + 1) ++ l.drop (i + 1) := by
  unfold seqI
  rw [drop_get l i h, List.set_append_right _ _ (by simp), List.range_succ, List.map_append, List.append_assoc]
  have hz : i - ((List.range i).map (fun i : Nat => a + (i : Int))).length = 0 := by simp
  rw [hz, List.set_cons_zero]
  rfl
theorem seqI_rd (a : Int) (n i : Nat) (h : i < n) : rd (seqI a n) (i : Int) = a + i := by
  rw [rd_get _ i (by rw [seqI_len]; exact h)]
  unfold seqI
  simp
theorem markIntS_ev (l : List Int) (a : Int) (h0 : 0 ≤ a) (h1 : a + l.length ≤ 1125899906842624) : Ev (fun k => laws_markIntS.f k l a) (a + l.length, seqI a l.length) := by
  have loop : ∀ (d i : Nat), i + d = l.length → Ev (fun k => laws_markIntS.l0 k (seqI a i ++ l.drop i) (a + i) i) (a + l.length, seqI a l.length) := by
    intro d
    induction d with
    | zero =>
      intro i hi
      obtain rfl : i = l.length := by omega
      refine Ev.step (f := fun _ => some (a + l.length, seqI a l.length)) (fun k => ?_) (Ev.now _)
      rw [laws_markIntS.l0, if_neg (by rw [List.length_append, seqI_len, List.length_drop]; omega), List.drop_length, List.append_nil]
    | succ d ih =>
      intro i hi
      refine Ev.step (f := fun k => laws_markIntS.l0 k (seqI a (i + 1) ++ l.drop (i + 1)) (a + ((i + 1 : Nat) : Int)) ((i + 1 : Nat) : Int)) (fun k => ?_) (ih (i + 1) (by omega))
      rw [laws_markIntS.l0, if_pos (by rw [List.length_append, seqI_len, List.length_drop]; omega), if_pos (by omega), Int.toNat_natCast, seqI_step a l i (by omega), w64_succ (by omega), w64 (by omega) (by omega), show a + (i : Int) + 1 = a + ((i + 1 : Nat) : Int) by omega]
  refine Ev.congr (fun k => ?_) (loop l.length 0 (by omega))
  rw [laws_markIntS.f]
  simp [seqI]
theorem heldIntS_ev (a : Int) (n : Nat) (h0 : 0 ≤ a) (h1 : a + n ≤ 1125899906842624) : Ev (fun k => laws_heldIntS.f k (seqI a n) a) (a + n) := by
  have loop : ∀ (d i : Nat), i + d = n → Ev (fun k => laws_heldIntS.l0 k (seqI a n) (a + i) i) (a + n) := by
    intro d
    induction d with
    | zero =>
      intro i hi
      obtain rfl : i = n := by omega
      refine Ev.step (f := fun _ => some (a + i)) (fun k => ?_) (Ev.now _)
      rw [laws_heldIntS.l0, if_neg (by rw [seqI_len]; omega)]
    | succ d ih =>
      intro i hi
      refine Ev.step (f := fun k => laws_heldIntS.l0 k (seqI a n) (a + ((i + 1 : Nat) : Int)) ((i + 1 : Nat) : Int)) (fun k => ?_) (ih (i + 1) (by omega))
      rw [laws_heldIntS.l0, if_pos (by rw [seqI_len]; omega), if_pos (by omega), seqI_rd a n i (by omega), if_pos rfl, w64_succ (by omega), w64 (by omega) (by omega), show a + (i : Int) + 1 = a + ((i + 1 : Nat) : Int) by omega]
  refine Ev.congr (fun k => ?_) (loop n 0 (by omega))
  rw [laws_heldIntS.f]
  simp

theorem markFact_ev (r : Int) (v : List Int) (a : Int) (h0 : 0 ≤ a) (h1 : a + v.length ≤ 1125899906842624) : Ev (fun k => laws_markFact.f k r v a) (a + v.length, seqI a v.length) := by
  refine Ev.congr (fun k => by rw [laws_markFact.f]) ?_
  exact Ev.bind (markIntS_ev v a h0 h1) (Ev.now _)
theorem heldFact_ev (r : Int) (a : Int) (n : Nat) (h0 : 0 ≤ a) (h1 : a + n ≤ 1125899906842624) : Ev (fun k => laws_heldFact.f k r (seqI a n) a) (a + n) := by
  refine Ev.congr (fun k => by rw [laws_heldFact.f]) ?_
  refine Ev.bind (heldIntS_ev a n h0 h1) ?_
  simp only [show ¬ (a + (n : Int) < 0) by omega, if_false]
  exact Ev.now _

theorem markSub_ev (n v : List Int) (a : Int) (h0 : 0 ≤ a) (h1 : a + n.length + v.length ≤ 1125899906842624) : Ev (fun k => laws_markSubstitution.f k n v a) (a + n.length + v.length, seqI a n.length, seqI (a + n.length) v.length) := by
  refine Ev.congr (fun k => by rw [laws_markSubstitution.f]) ?_
  exact Ev.bind (markIntS_ev n a h0 (by omega)) (Ev.bind (markIntS_ev v (a + n.length) (by omega) (by omega)) (Ev.now _))

def applyL (n v : List Int) (l : List Int) : List Int := l.map (applyV n v)
theorem fill_in {α : Type} (f : α → α) (l : List α) (i : Nat) (h : i < l.length) : ((l.take i).map f ++ l.drop i).set i (f l[i]) = (l.take (i + 1)).map f ++ l.drop (i + 1) := by
  rw [drop_get l i h, List.set_append_right _ _ (by simp; omega), List.take_succ_eq_append_getElem h, List.map_append, List.append_assoc]
  have hz : i - ((l.take i).map f).length = 0 := by simp; omega
  rw [hz, List.set_cons_zero]
  rfl
theorem fill_in_len {α : Type} (f : α → α) (l : List α) (i : Nat) (h : i ≤ l.length) : ((l.take i).map f ++ l.drop i).length = l.length := by simp; omega
theorem specApplyF_ev (n v : List Int) (r : Int) (l : List Int) (hn : n.length ≤ 1048576) (hl : l.length ≤ 1048576) (gn : ∀ y ∈ n, GI y) (gv : ∀ y ∈ v, GI y) (gl : ∀ y ∈ l, GI y) :
    Ev (fun k => spec_ApplyToFact.f k n v r l) (r, applyL n v l) := by
  have loop : ∀ (d i : Nat), i + d = l.length → Ev (fun k => spec_ApplyToFact.l0 k i n v r l r ((l.take i).map (applyV n v))) (r, applyL n v l) := by
    intro d
    induction d with
    | zero =>
      intro i hi
      refine Ev.step (f := fun _ => some (r, applyL n v l)) (fun k => ?_) (Ev.now _)
      rw [spec_ApplyToFact.l0, if_neg (by omega), List.take_of_length_le (by omega)]
      rfl
    | succ d ih =>
      intro i hi
      refine Ev.step (f := fun k => (spec_ApplyToValue.f k n v l[i]).bind fun t => if ((l.take i).map (applyV n v)).length < 17592186044416 then spec_ApplyToFact.l0 k ((i + 1 : Nat) : Int) n v r l r ((l.take i).map (applyV n v) ++ [t]) else none) (fun k => ?_) ?_
      · rw [spec_ApplyToFact.l0, if_pos (by omega), if_pos (by omega), rd_get l i (by omega), w64_succ (by omega)]
      · refine Ev.bind (specApplyV_ev n v l[i] hn gn gv (gl _ (List.getElem_mem (by omega)))) (Ev.congr (fun k => ?_) (ih (i + 1) (by omega)))
        rw [if_pos (by simp; omega), List.take_succ_eq_append_getElem (by omega), List.map_append]
        rfl
  refine Ev.congr (fun k => by rw [spec_ApplyToFact.f]; rfl) (loop l.length 0 (by omega))
theorem factCopy_ev (r : Int) (l : List Int) (hl : l.length ≤ 1048576) : Ev (fun k => impl_factCopy.f r l) (r, l) := by
  refine Ev.congr (fun k => by rw [impl_factCopy.f, slices_Clone_int_int.f, if_pos (by omega), Option.bind_some]) (Ev.now _)
theorem implApplyF_ev (n v : List Int) (r : Int) (l : List Int) (hn : n.length ≤ 1048576) (hl : l.length ≤ 1048576) (gl : ∀ y ∈ l, GI y) :
    Ev (fun k => impl_ApplyToFact.f k n v r l) (r, applyL n v l) := by
  have loop : ∀ (d i : Nat), i + d = l.length → Ev (fun k => impl_ApplyToFact.l0 k l l.length i n v r ((l.take i).map (applyV n v) ++ l.drop i)) (r, applyL n v l) := by
    intro d
    induction d with
    | zero =>
      intro i hi
      refine Ev.step (f := fun _ => some (r, applyL n v l)) (fun k => ?_) (Ev.now _)
      rw [impl_ApplyToFact.l0, if_neg (by omega), List.take_of_length_le (by omega), (List.drop_eq_nil_iff).2 (by omega), List.append_nil]
      rfl
    | succ d ih =>
      intro i hi
      have e2 := fill_in (applyV n v) l i (by omega)
      have e3 := fill_in_len (applyV n v) l i (by omega)
      generalize ((l.take i).map (applyV n v) ++ l.drop i) = y at e2 e3 ⊢
      refine Ev.step (f := fun k => (impl_ApplyToValue.f k n v l[i]).bind fun t => if (i : Int) < (y.length : Int) then impl_ApplyToFact.l0 k l l.length ((i + 1 : Nat) : Int) n v r (y.set ((i : Int)).toNat t) else none) (fun k => ?_) ?_
      · rw [impl_ApplyToFact.l0, if_pos (by omega), if_pos (by omega), if_pos (by omega), rd_get l i (by omega), w64_succ (by omega)]
      · refine Ev.bind (implApplyV_ev n v l[i] hn (gl _ (List.getElem_mem (by omega)))) (Ev.congr (fun k => ?_) (ih (i + 1) (by omega)))
        rw [if_pos (by omega), Int.toNat_natCast, e2]
  refine Ev.congr (fun k => by rw [impl_ApplyToFact.f]) (Ev.bind (factCopy_ev r l hl) ?_)
  exact Ev.congr (fun k => rfl) (loop l.length 0 (by omega))

theorem FnExactApplyToFact (l0_0 : List Int) (l0_1 : List Int) (a1_0 : Int) (l1_1 : List Int) (g0_0 : (GL GI) l0_0) (g0_1 : (GL GI) l0_1) (g1_0 : GI a1_0) (g1_1 : (GL GI) l1_1) : ∃ k, laws_FnExactApplyToFact.f k l0_0 l0_1 a1_0 l1_1 = some true := by
  obtain ⟨r, e, h⟩ := szSubstitution_f l0_0 l0_1 g0_0.1 g0_1.1 1048576 (by omega) (by omega)
  refine Ev.rounds (r := true) (Ev.congr (fun k => by rw [laws_FnExactApplyToFact.f, e, Option.bind_some]) ?_)
  rcases h with h | h
  · simp only [h, if_true]; exact Ev.now _
  · simp only [show ¬ r < 0 by omega, if_false]
    obtain ⟨r2, e2, h2⟩ := szFact_f a1_0 l1_1 g1_1.1 r (by omega) (by omega)
    refine Ev.congr (fun k => by rw [e2, Option.bind_some]) ?_
    rcases h2 with h2 | h2
    · simp only [h2, if_true]; exact Ev.now _
    · simp only [show ¬ r2 < 0 by omega, if_false]
      have t1 := toSubstitution_ev l0_0 l0_1 (by omega) (by omega)
      have t2 := toFact_ev a1_0 l1_1 (by omega)
      have im := implApplyF_ev l0_0 l0_1 a1_0 l1_1 (by omega) (by omega) g1_1.2
      have hlen : (applyL l0_0 l0_1 l1_1).length = l1_1.length := by unfold applyL; simp
      have q := eqFact_ev a1_0 (applyL l0_0 l0_1 l1_1) (by omega)
      have hm := markFact_ev a1_0 (applyL l0_0 l0_1 l1_1) 1 (by omega) (by omega)
      have hh := heldFact_ev a1_0 1 (applyL l0_0 l0_1 l1_1).length (by omega) (by omega)
      have hlast : Ev (fun k => laws_FnExactApplyToFact.j0 k (!true) l0_0 l0_1 a1_0 l1_1 a1_0 (applyL l0_0 l0_1 l1_1) a1_0 (applyL l0_0 l0_1 l1_1)) true := by
        refine Ev.step (f := fun k => _) (fun k => by rw [laws_FnExactApplyToFact.j0, if_neg (by simp)]) ?_
        refine Ev.bind hm (Ev.bind hh ?_)
        simp only [show ¬ (1 + ((applyL l0_0 l0_1 l1_1).length : Int) < 0) by omega, if_false, if_true]
        refine Ev.bind t1 (Ev.bind t2 (Ev.bind im (Ev.bind q ?_)))
        simp only [if_true]
        refine Ev.bind hh ?_
        simp only [show ¬ (1 + ((applyL l0_0 l0_1 l1_1).length : Int) < 0) by omega, if_false]
        exact Ev.now _
      refine Ev.bind t1 (Ev.bind t2 (Ev.bind (specApplyF_ev l0_0 l0_1 a1_0 l1_1 (by omega) (by omega) g0_0.2 g0_1.2 g1_1.2) (Ev.bind t1 (Ev.bind t2 (Ev.bind im (Ev.bind q ?_))))))
      simp only [if_true]
      refine Ev.bind t1 (Ev.bind (eqSubstitution_ev l0_0 l0_1 (by omega) (by omega)) ?_)
      simp only [if_true]
      refine Ev.bind t2 (Ev.bind (eqFact_ev a1_0 l1_1 (by omega)) ?_)
      simp only [if_true]
      refine Ev.bind (markSub_ev l0_0 l0_1 1 (by omega) (by omega)) (Ev.bind (markFact_ev a1_0 l1_1 _ (by omega) (by omega)) ?_)
      simp only [show ¬ (1 + (l0_0.length : Int) + (l0_1.length : Int) + (l1_1.length : Int) < 0) by omega, if_false]
      exact Ev.bind q hlast

end Go.Proofs.Ytaimpokajhkgnaa.Pure
