/- Compose of the program and of the reference agree, for every two substitutions; what it hands back lies apart (past the law's own size bound it answers true itself). -/
import Derived.Test.YtjphbdnfbkfgiaaPFnExactComposex1
import Derived.Test.YtjphbdnfbkfgiaaPFnExactComposex2
import Derived.Test.YtjphbdnfbkfgiaaPFnExactComposex3
import Derived.Test.YtjphbdnfbkfgiaaPFnExactComposex4
import Derived.Test.YtjphbdnfbkfgiaaPFnExactComposex5
import Derived.Test.YtjphbdnfbkfgiaaPFnExactComposex6
import Derived.Test.YtjphbdnfbkfgiaaPFnExactComposex7
import Derived.Test.YtjphbdnfbkfgiaaPFnExactComposex8
import Derived.Test.YtjphbdnfbkfgiaaOpens
import Derived.Test.YtjphbdnfbkfgiaaPlain
namespace Go.Proofs.Ytjphbdnfbkfgiaa.Pure
open Go.RowKit Go.Proofs.Ytjphbdnfbkfgiaa.PFnExactCompose Go.Proofs.YtjphbdnfbkfgiaaW.PrintWords Go.Proofs.YtjphbdnfbkfgiaaW.PrintLast Go.Proofs.YtjphbdnfbkfgiaaW.PrintMore Go.Proofs.Ytjphbdnfbkfgiaa.Opens Go.Proofs.Ytjphbdnfbkfgiaa.Plain
set_option linter.unusedVariables false
set_option linter.unusedSimpArgs false

theorem l1In_f (a b c : Int) : spec_l1In.f a b c = some (decide (b ≤ a ∧ a ≤ c)) := by
  unfold spec_l1In.f
  by_cases h : b ≤ a <;> simp [h]

theorem within_f (a b c : Int) : impl_within.f a b c = some (decide (b ≤ a ∧ a ≤ c)) := by
  unfold impl_within.f
  by_cases h : b ≤ a <;> simp [h]

theorem szIntS_f (l : List Int) (hl : l.length ≤ 9223372036854775807) (a : Int) (h0 : 0 ≤ a) (h1 : a ≤ 1048576) :
    ∃ r, laws_szIntS.f l a = some r ∧ (r < 0 ∨ 0 ≤ r ∧ r + l.length ≤ a) := by
  unfold laws_szIntS.f
  rw [w64 (by omega) (by omega)]
  by_cases c : a - (l.length : Int) < 0
  · exact ⟨-1, by rw [if_pos c], .inl (by omega)⟩
  · exact ⟨a - l.length, by rw [if_neg c], .inr (by omega)⟩

theorem toIntS_ev (l : List Int) (hl : l.length ≤ 1048576) : Ev (fun k => laws_toIntS.f k l) l := by
  have loop : ∀ (d i : Nat), i + d = l.length → Ev (fun k => laws_toIntS.l0 k l ((l.take i).map id ++ List.replicate (l.length - i) 0) i) l := by
    intro d
    induction d with
    | zero =>
      intro i hi
      refine Ev.step (f := fun _ => some l) (fun k => ?_) (Ev.now _)
      rw [laws_toIntS.l0, if_neg (by omega)]
      simp [show l.length - i = 0 by omega, List.take_of_length_le (show l.length ≤ i by omega)]
    | succ d ih =>
      intro i hi
      refine Ev.step (f := fun k => laws_toIntS.l0 k l ((l.take (i + 1)).map id ++ List.replicate (l.length - (i + 1)) 0) ((i + 1 : Nat) : Int)) (fun k => ?_) (ih (i + 1) (by omega))
      rw [laws_toIntS.l0, if_pos (by omega), if_pos (by omega), if_pos (by rw [fill_len _ _ _ _ (by omega)]; omega), rd_get l i (by omega), Int.toNat_natCast, w64_succ (by omega)]
      have e := fill_step id l 0 i (by omega)
      rw [id_eq] at e
      rw [e]
  refine Ev.congr (f := fun k => laws_toIntS.l0 k l (List.replicate l.length 0) 0) (fun k => ?_) ?_
  · rw [laws_toIntS.f, if_pos (by omega), if_pos (by omega)]; rfl
  · have e := loop l.length 0 (by omega)
    simpa using e

theorem eqIntS_ev (l : List Int) (hl : l.length ≤ 140737488355328) : Ev (fun k => laws_eqIntS.f k l l) true := by
  have loop : ∀ (d i : Nat), i + d = l.length → Ev (fun k => laws_eqIntS.l0 k l l i) true := by
    intro d
    induction d with
    | zero =>
      intro i hi
      refine Ev.step (f := fun _ => some true) (fun k => ?_) (Ev.now _)
      rw [laws_eqIntS.l0, if_neg (by omega)]
    | succ d ih =>
      intro i hi
      refine Ev.step (f := fun k => laws_eqIntS.l0 k l l ((i + 1 : Nat) : Int)) (fun k => ?_) (ih (i + 1) (by omega))
      rw [laws_eqIntS.l0, if_pos (by omega), if_pos (by omega), if_pos (by omega), if_pos rfl, w64_succ (by omega)]
  refine Ev.congr (f := fun k => laws_eqIntS.l0 k l l 0) (fun k => ?_) (loop l.length 0 (by omega))
  rw [laws_eqIntS.f, if_pos rfl]

theorem szSubstitution_f (n v : List Int) (hn : n.length ≤ 9223372036854775807) (hv : v.length ≤ 9223372036854775807) (a : Int) (h0 : 0 ≤ a) (h1 : a ≤ 1048576) :
    ∃ r, laws_szSubstitution.f n v a = some r ∧ (r < 0 ∨ 0 ≤ r ∧ r + n.length + v.length ≤ a) := by
  obtain ⟨r, e, h⟩ := szIntS_f n hn a h0 h1
  unfold laws_szSubstitution.f
  rw [e, Option.bind_some]
  rcases h with h | ⟨h, h'⟩
  · exact ⟨-1, by rw [if_pos h], .inl (by omega)⟩
  · obtain ⟨r2, e2, h2⟩ := szIntS_f v hv r h (by omega)
    rw [if_neg (by omega), e2, Option.bind_some]
    rcases h2 with h2 | ⟨h2, h2'⟩
    · exact ⟨-1, by rw [if_pos h2], .inl (by omega)⟩
    · exact ⟨r2, by rw [if_neg (by omega)], .inr (by omega)⟩
theorem toSubstitution_ev (n v : List Int) (hn : n.length ≤ 1048576) (hv : v.length ≤ 1048576) : Ev (fun k => laws_toSubstitution.f k n v) (n, v) := by
  refine Ev.congr (fun k => by rw [laws_toSubstitution.f]) ?_
  exact Ev.bind (toIntS_ev n hn) (Ev.bind (toIntS_ev v hv) (Ev.now _))
theorem eqSubstitution_ev (n v : List Int) (hn : n.length ≤ 140737488355328) (hv : v.length ≤ 140737488355328) : Ev (fun k => laws_eqSubstitution.f k n v n v) true := by
  refine Ev.congr (fun k => by rw [laws_eqSubstitution.f]) ?_
  refine Ev.bind (eqIntS_ev n hn) ?_
  simp only [if_true]
  refine Ev.bind (eqIntS_ev v hv) ?_
  simp only [if_true]
  exact Ev.now _

def vv (x : Int) : Bool := decide (-40 ≤ x ∧ x ≤ 9)

theorem specNullNumber_f (x : Int) (h : GI x) : spec_NullNumber.f x = some (if -40 ≤ x ∧ x ≤ -1 then (-1 - x, true) else (0, false)) := by
  unfold GI at h
  unfold spec_NullNumber.f
  by_cases c : x ≥ 0
  · rw [if_pos c, if_neg (by omega)]
  · have e : wrap64 ((-1) - x) = -1 - x := w64 (by omega) (by omega)
    rw [if_neg c, e, l1In_f]
    simp only [Option.bind_some, decide_eq_true_eq]
    by_cases c2 : -40 ≤ x ∧ x ≤ -1
    · rw [if_pos c2, if_pos (by omega)]
    · rw [if_neg c2, if_neg (by omega)]

theorem specIsValidValue_f (x : Int) (h : GI x) : spec_IsValidValue.f x = some (vv x) := by
  unfold spec_IsValidValue.f vv
  rw [specNullNumber_f x h, Option.bind_some, l1In_f]
  by_cases c2 : -40 ≤ x ∧ x ≤ -1
  · rw [if_pos c2, if_pos rfl]; exact congrArg some (decide_eq_true (by omega)).symm
  · rw [if_neg c2, if_neg (by simp), Option.bind_some]; exact congrArg some (decide_eq_decide.2 (by omega))

theorem implIsValidValue_f (x : Int) : impl_IsValidValue.f x = some (vv x) := by
  unfold impl_IsValidValue.f vv
  rw [within_f, Option.bind_some]

theorem implNullNumber_f (x : Int) (h : GI x) : impl_NullNumber.f x = some (if -40 ≤ x ∧ x ≤ -1 then (-1 - x, true) else (0, false)) := by
  unfold GI at h
  unfold impl_NullNumber.f
  rw [within_f]
  simp only [Option.bind_some, decide_eq_true_eq]
  have e : wrap64 ((-1) - x) = -1 - x := w64 (by omega) (by omega)
  rw [e]
  by_cases c2 : -40 ≤ x ∧ x ≤ -1
  · rw [if_pos c2, if_pos (by omega)]
  · rw [if_neg c2, if_neg (by omega)]

/-- From place i on (d places): each null in range, above the one before it, its value valid. -/
def okSub (n v : List Int) (i : Nat) : Nat → Bool
  | 0 => true
  | d + 1 => decide (0 ≤ n.getD i 0 ∧ n.getD i 0 ≤ 39) && (decide (i = 0) || decide (n.getD (i - 1) 0 < n.getD i 0)) && vv (v.getD i 0) && okSub n v (i + 1) d
def validSub (n v : List Int) : Bool := decide (n.length = v.length) && okSub n v 0 n.length
theorem rd_nat (l : List Int) (i : Nat) : rd l (i : Int) = l.getD i 0 := by unfold rd; rw [Int.toNat_natCast]
theorem gi_getD {l : List Int} (h : ∀ x ∈ l, GI x) (i : Nat) : GI (l.getD i 0) := by
  by_cases c : i < l.length
  · have : l.getD i 0 = l[i] := by simp [List.getD_eq_getElem?_getD, c]
    rw [this]; exact h _ (List.getElem_mem c)
  · have : l.getD i 0 = 0 := by simp [List.getD_eq_getElem?_getD, List.getElem?_eq_none (show l.length ≤ i by omega)]
    rw [this]; unfold GI; omega
theorem specValidSub_ev (n v : List Int) (hl : n.length ≤ 140737488355328) (hv : ∀ x ∈ v, GI x) : Ev (fun k => spec_IsValidSubstitution.f k n v) (validSub n v) := by
  unfold validSub
  by_cases c : n.length = v.length
  · have loop : ∀ (d i : Nat), i + d = n.length → Ev (fun k => spec_IsValidSubstitution.l0 k i n v) (okSub n v i d) := by
      intro d
      induction d with
      | zero =>
        intro i hi
        refine Ev.step (f := fun _ => some true) (fun k => ?_) (Ev.now _)
        rw [spec_IsValidSubstitution.l0, if_neg (by omega)]
      | succ d ih =>
        intro i hi
        have e := ih (i + 1) (by omega)
        refine Ev.step (f := fun k => if okSub n v i 1 = true then spec_IsValidSubstitution.l0 k ((i + 1 : Nat) : Int) n v else some false) (fun k => ?_) ?_
        · rw [spec_IsValidSubstitution.l0, if_pos (by omega), if_pos (by omega), l1In_f, rd_nat, rd_nat, specIsValidValue_f _ (gi_getD hv i), w64_succ (by omega)]
          simp only [Option.bind_some, decide_eq_true_eq, okSub, Bool.and_true]
          by_cases c1 : 0 ≤ n.getD i 0 ∧ n.getD i 0 ≤ 39
          · rw [if_pos c1]
            by_cases c2 : i = 0
            · rw [if_neg (by omega), if_pos (by omega)]
              rw [c2] at c1
              simp only [c1, c2, and_self, decide_true, Bool.true_and, Bool.true_or]
            · rw [if_pos (by omega), w64 (by omega) (by omega), if_pos (by omega), if_pos (by omega), show ((i : Int) - 1) = ((i - 1 : Nat) : Int) by omega, rd_nat]
              by_cases c3 : n.getD i 0 ≤ n.getD (i - 1) 0
              · rw [if_pos c3, if_neg]
                simp only [Bool.and_eq_true, Bool.or_eq_true, decide_eq_true_eq]; omega
              · rw [if_neg c3, if_pos (by omega)]
                have c4 : n.getD (i - 1) 0 < n.getD i 0 := by omega
                simp only [c1, c4, and_self, decide_true, Bool.true_and, Bool.or_true]
          · rw [if_neg c1, if_neg]
            simp only [Bool.and_eq_true, Bool.or_eq_true, decide_eq_true_eq]; omega
        · have ho : okSub n v i (d + 1) = (okSub n v i 1 && okSub n v (i + 1) d) := by simp [okSub]
          rw [ho]
          cases h1 : okSub n v i 1 with
          | true => simpa using e
          | false => simpa using Ev.now false
    refine Ev.congr (f := fun k => spec_IsValidSubstitution.l0 k 0 n v) (fun k => ?_) ?_
    · rw [spec_IsValidSubstitution.f, if_pos (by omega)]
    · rw [decide_eq_true c, Bool.true_and]; exact loop n.length 0 (by omega)
  · refine Ev.congr (f := fun _ => some false) (fun k => ?_) ?_
    · rw [spec_IsValidSubstitution.f, if_neg (by omega)]
    · rw [decide_eq_false c, Bool.false_and]; exact Ev.now _

theorem implValidSub_ev (n v : List Int) (hl : n.length ≤ 140737488355328) : Ev (fun k => impl_IsValidSubstitution.f k n v) (validSub n v) := by
  unfold validSub
  by_cases c : n.length = v.length
  · have loop : ∀ (d i : Nat), i + d = n.length → Ev (fun k => impl_IsValidSubstitution.l0 k n n.length i n v) (okSub n v i d) := by
      intro d
      induction d with
      | zero =>
        intro i hi
        refine Ev.step (f := fun _ => some true) (fun k => ?_) (Ev.now _)
        rw [impl_IsValidSubstitution.l0, if_neg (by omega)]
      | succ d ih =>
        intro i hi
        have e := ih (i + 1) (by omega)
        refine Ev.step (f := fun k => if okSub n v i 1 = true then impl_IsValidSubstitution.l0 k n n.length ((i + 1 : Nat) : Int) n v else some false) (fun k => ?_) ?_
        · rw [impl_IsValidSubstitution.l0, if_pos (by omega), if_pos (by omega), if_pos (by omega), within_f, rd_nat, rd_nat, implIsValidValue_f, w64_succ (by omega)]
          simp only [Option.bind_some, decide_eq_true_eq, okSub, Bool.and_true]
          by_cases c1 : 0 ≤ n.getD i 0 ∧ n.getD i 0 ≤ 39
          · rw [if_pos c1]
            by_cases c2 : i = 0
            · rw [if_neg (by omega), if_pos (by omega)]
              rw [c2] at c1
              simp only [c1, c2, and_self, decide_true, Bool.true_and, Bool.true_or]
            · rw [if_pos (by omega), w64 (by omega) (by omega), if_pos (by omega), if_pos (by omega), show ((i : Int) - 1) = ((i - 1 : Nat) : Int) by omega, rd_nat]
              by_cases c3 : n.getD i 0 ≤ n.getD (i - 1) 0
              · rw [if_pos c3, if_neg]
                simp only [Bool.and_eq_true, Bool.or_eq_true, decide_eq_true_eq]; omega
              · rw [if_neg c3, if_pos (by omega)]
                have c4 : n.getD (i - 1) 0 < n.getD i 0 := by omega
                simp only [c1, c4, and_self, decide_true, Bool.true_and, Bool.or_true]
          · rw [if_neg c1, if_neg]
            simp only [Bool.and_eq_true, Bool.or_eq_true, decide_eq_true_eq]; omega
        · have ho : okSub n v i (d + 1) = (okSub n v i 1 && okSub n v (i + 1) d) := by simp [okSub]
          rw [ho]
          cases h1 : okSub n v i 1 with
          | true => simpa using e
          | false => simpa using Ev.now false
    refine Ev.congr (f := fun k => impl_IsValidSubstitution.l0 k n n.length 0 n v) (fun k => ?_) ?_
    · rw [impl_IsValidSubstitution.f, if_pos (by omega)]
    · rw [decide_eq_true c, Bool.true_and]; exact loop n.length 0 (by omega)
  · refine Ev.congr (f := fun _ => some false) (fun k => ?_) ?_
    · rw [impl_IsValidSubstitution.f, if_neg (by omega)]
    · rw [decide_eq_false c, Bool.false_and]; exact Ev.now _

/-- What ApplyToValue answers: the value of the first null that stands for v, if the substitution is valid. -/
def look (n v : List Int) (x : Int) (i : Nat) : Nat → Int
  | 0 => x
  | d + 1 => if -1 - n.getD i 0 = x then v.getD i 0 else look n v x (i + 1) d
def applyV (n v : List Int) (x : Int) : Int := if validSub n v = true then look n v x 0 n.length else x
theorem okSub_range (n v : List Int) (d : Nat) : ∀ i, okSub n v i d = true → ∀ j, i ≤ j → j < i + d → 0 ≤ n.getD j 0 ∧ n.getD j 0 ≤ 39 ∧ vv (v.getD j 0) = true := by
  induction d with
  | zero => intro i _ j h1 h2; omega
  | succ d ih =>
    intro i h j h1 h2
    rw [okSub] at h
    simp only [Bool.and_eq_true, decide_eq_true_eq] at h
    by_cases c : j = i
    · subst c; exact ⟨h.1.1.1.1, h.1.1.1.2, h.1.2⟩
    · exact ih (i + 1) h.2 j (by omega) (by omega)
theorem specApplyV_ev (n v : List Int) (x : Int) (hn : n.length ≤ 1048576) (gn : ∀ y ∈ n, GI y) (gv : ∀ y ∈ v, GI y) (hx : GI x) : Ev (fun k => spec_ApplyToValue.f k n v x) (applyV n v x) := by
  unfold applyV
  have hval := specValidSub_ev n v (by omega) gv
  refine Ev.congr (fun k => by rw [spec_ApplyToValue.f]) ?_
  by_cases c : validSub n v = true
  · rw [c] at hval
    simp only [c, if_true]
    have hlen : n.length = v.length := by unfold validSub at c; simp only [Bool.and_eq_true, decide_eq_true_eq] at c; exact c.1
    have hok := okSub_range n v n.length 0 (by unfold validSub at c; simp only [Bool.and_eq_true] at c; exact c.2)
    have loop : ∀ (d i : Nat), i + d = n.length → Ev (fun k => spec_ApplyToValue.l0 k x i n v) (look n v x i d) := by
      intro d
      induction d with
      | zero =>
        intro i hi
        refine Ev.step (f := fun k => spec_ApplyToValue.j1 k x i false n v) (fun k => ?_) (Ev.step (f := fun _ => some x) (fun k => ?_) (Ev.now _))
        · rw [spec_ApplyToValue.l0, if_neg (by omega)]
        · rw [spec_ApplyToValue.j1, if_neg (by simp)]
      | succ d ih =>
        intro i hi
        have e := ih (i + 1) (by omega)
        have hr := hok i (by omega) (by omega)
        refine Ev.step (f := fun k => (spec_IsValidSubstitution.f k n v).bind fun t => spec_ApplyToValue.j1 k x i t n v) (fun k => ?_) (Ev.bind hval ?_)
        · rw [spec_ApplyToValue.l0, if_pos (by omega)]
        · have hg := gi_getD gn i
          unfold GI at hg
          refine Ev.step (f := fun k => if -1 - n.getD i 0 = x then some (v.getD i 0) else spec_ApplyToValue.l0 k x ((i + 1 : Nat) : Int) n v) (fun k => ?_) ?_
          · rw [spec_ApplyToValue.j1, if_pos rfl, if_pos (by omega), if_pos (by omega), spec_NullValue.f, rd_nat, rd_nat, Option.bind_some, w64 (by omega) (by omega), w64_succ (by omega), if_pos (by omega : (i : Int) < (v.length : Int))]
          · rw [look]
            by_cases e2 : -1 - n.getD i 0 = x
            · simp only [e2, if_true]; exact Ev.now _
            · simp only [e2, if_false]; exact e
    exact loop n.length 0 (by omega)
  · simp only [c, if_false]
    have cf : validSub n v = false := by simpa using c
    rw [cf] at hval
    by_cases c0 : n.length = 0
    · refine Ev.step (f := fun k => spec_ApplyToValue.j1 k x 0 false n v) (fun k => ?_) (Ev.step (f := fun _ => some x) (fun k => ?_) (Ev.now _))
      · rw [spec_ApplyToValue.l0, if_neg (by omega)]
      · rw [spec_ApplyToValue.j1, if_neg (by simp)]
    · refine Ev.step (f := fun k => (spec_IsValidSubstitution.f k n v).bind fun t => spec_ApplyToValue.j1 k x 0 t n v) (fun k => ?_) (Ev.bind hval (Ev.step (f := fun _ => some x) (fun k => ?_) (Ev.now _)))
      · rw [spec_ApplyToValue.l0, if_pos (by omega)]
      · rw [spec_ApplyToValue.j1, if_neg (by simp)]

/-- The place of the first x from place i on, or -1. -/
def idxI (l : List Int) (x : Int) (i : Nat) : Nat → Int
  | 0 => -1
  | d + 1 => if x = l.getD i 0 then (i : Int) else idxI l x (i + 1) d
theorem indexInt_ev (l : List Int) (x : Int) (hl : l.length ≤ 140737488355328) : Ev (fun k => slices_Index_int_int.f k l x) (idxI l x 0 l.length) := by
  have loop : ∀ (d i : Nat), i + d = l.length → Ev (fun k => slices_Index_int_int.l0 k l x l.length i) (idxI l x i d) := by
    intro d
    induction d with
    | zero =>
      intro i hi
      refine Ev.step (f := fun _ => some (-1)) (fun k => ?_) (Ev.now _)
      rw [slices_Index_int_int.l0, if_neg (by omega)]
    | succ d ih =>
      intro i hi
      refine Ev.step (f := fun k => if x = l.getD i 0 then some (i : Int) else slices_Index_int_int.l0 k l x l.length ((i + 1 : Nat) : Int)) (fun k => ?_) ?_
      · rw [slices_Index_int_int.l0, if_pos (by omega), if_pos (by omega), if_pos (by omega), rd_nat, w64_succ (by omega)]
      · rw [idxI]
        by_cases e2 : x = l.getD i 0
        · simp only [e2, if_true]; exact Ev.now _
        · simp only [e2, if_false]; exact ih (i + 1) (by omega)
  exact Ev.congr (fun k => by rw [slices_Index_int_int.f]; rfl) (loop l.length 0 (by omega))
/-- Index and look: the place that the one finds is the place where the other stops. -/
theorem look_idx (n v : List Int) (x : Int) (d : Nat) : ∀ i, look n v x i d = if idxI n (-1 - x) i d < 0 then x else v.getD (idxI n (-1 - x) i d).toNat 0 := by
  induction d with
  | zero => intro i; simp [look, idxI]
  | succ d ih =>
    intro i
    rw [look, idxI]
    by_cases c : -1 - n.getD i 0 = x
    · rw [if_pos c, if_pos (show -1 - x = n.getD i 0 by omega), if_neg (show ¬ (i : Int) < 0 by omega), Int.toNat_natCast]
    · rw [if_neg c, if_neg (show ¬ -1 - x = n.getD i 0 by omega), ih]
theorem idx_range (n : List Int) (x : Int) (d : Nat) : ∀ i, 0 ≤ idxI n x i d → i ≤ (idxI n x i d).toNat ∧ (idxI n x i d).toNat < i + d ∧ n.getD (idxI n x i d).toNat 0 = x := by
  induction d with
  | zero => intro i h; simp [idxI] at h
  | succ d ih =>
    intro i h
    rw [idxI] at h ⊢
    by_cases c : x = n.getD i 0
    · rw [if_pos c]; exact ⟨by simp, by simp, by rw [Int.toNat_natCast, c]⟩
    · rw [if_neg c] at h ⊢
      obtain ⟨h1, h2, h3⟩ := ih (i + 1) h
      exact ⟨by omega, by omega, h3⟩

theorem implApplyV_ev (n v : List Int) (x : Int) (hn : n.length ≤ 1048576) (hx : GI x) : Ev (fun k => impl_ApplyToValue.f k n v x) (applyV n v x) := by
  have hg : -9223372036854775808 ≤ x ∧ x ≤ 9223372036854775807 := hx
  refine Ev.congr (fun k => by rw [impl_ApplyToValue.f, implNullNumber_f x hx, Option.bind_some]) ?_
  refine Ev.bind (indexInt_ev n _ (by omega)) ?_
  by_cases c : -40 ≤ x ∧ x ≤ -1
  · simp only [c, and_self, if_true]
    have hli := look_idx n v x n.length 0
    by_cases c2 : idxI n (-1 - x) 0 n.length < 0
    · simp only [c2, if_true]
      have : applyV n v x = x := by unfold applyV; split
                                    · rw [hli, if_pos c2]
                                    · rfl
      rw [this]; exact Ev.now _
    · simp only [c2, if_false]
      refine Ev.bind (implValidSub_ev n v (by omega)) ?_
      have hr := idx_range n (-1 - x) n.length 0 (by omega)
      unfold applyV
      by_cases c3 : validSub n v = true
      · have hlen : n.length = v.length := by unfold validSub at c3; simp only [Bool.and_eq_true, decide_eq_true_eq] at c3; exact c3.1
        simp only [c3, if_true]
        rw [hli, if_neg c2]
        refine Ev.congr (f := fun _ => some (v.getD (idxI n (-1 - x) 0 n.length).toNat 0)) (fun k => ?_) (Ev.now _)
        rw [if_pos (by omega), if_pos (by omega)]
        unfold rd
        rfl
      · simp only [c3, if_false]; exact Ev.now _
  · simp only [c, if_false, Bool.false_eq_true]
    have : applyV n v x = x := by
      unfold applyV
      by_cases c3 : validSub n v = true
      · rw [if_pos c3]
        have hok := okSub_range n v n.length 0 (by unfold validSub at c3; simp only [Bool.and_eq_true] at c3; exact c3.2)
        have hl := look_idx n v x n.length 0
        rw [hl]
        by_cases c4 : idxI n (-1 - x) 0 n.length < 0
        · rw [if_pos c4]
        · exfalso
          obtain ⟨h1, h2, h3⟩ := idx_range n (-1 - x) n.length 0 (by omega)
          have := hok _ h1 h2
          omega
      · rw [if_neg c3]
    rw [this]; exact Ev.now _

/-- The numbers from a on, n of them. -/
def seqI (a : Int) (n : Nat) : List Int := (List.range n).map (fun i : Nat => a + (i : Int))
theorem seqI_len (a : Int) (n : Nat) : (seqI a n).length = n := by unfold seqI; simp
theorem seqI_step (a : Int) (l : List Int) (i : Nat) (h : i < l.length) : (seqI a i ++ l.drop i).set i (a + i) = seqI a (i + 1) ++ l.drop (i + 1) := by
  unfold seqI
  rw [drop_get l i h, List.set_append_right _ _ (by simp), List.range_succ, List.map_append, List.append_assoc]
  have hz : i - ((List.range i).map (fun i : Nat => a + (i : Int))).length = 0 := by simp
  rw [hz, List.set_cons_zero]
  rfl
theorem seqI_rd (a : Int) (n i : Nat) (h : i < n) : rd (seqI a n) (i : Int) = a + i := by
  rw [rd_get _ i (by rw [seqI_len]; exact h)]
  unfold seqI
  simp
theorem markIntS_ev (l : List Int) (a : Int) (h0 : 0 ≤ a) (h1 : a + l.length ≤ 1125899906842624) : Ev (fun k => laws_markIntS.f k l a) (a + l.length, seqI a l.length) := by
  have loop : ∀ (d i : Nat), i + d = l.length → Ev (fun k => laws_markIntS.l0 k (seqI a i ++ l.drop i) (a + i) i) (a + l.length, seqI a l.length) := by
    intro d
    induction d with
    | zero =>
      intro i hi
      obtain rfl : i = l.length := by omega
      refine Ev.step (f := fun _ => some (a + l.length, seqI a l.length)) (fun k => ?_) (Ev.now _)
      rw [laws_markIntS.l0, if_neg (by rw [List.length_append, seqI_len, List.length_drop]; omega), List.drop_length, List.append_nil]
    | succ d ih =>
      intro i hi
      refine Ev.step (f := fun k => laws_markIntS.l0 k (seqI a (i + 1) ++ l.drop (i + 1)) (a + ((i + 1 : Nat) : Int)) ((i + 1 : Nat) : Int)) (fun k => ?_) (ih (i + 1) (by omega))
      rw [laws_markIntS.l0, if_pos (by rw [List.length_append, seqI_len, List.length_drop]; omega), if_pos (by omega), Int.toNat_natCast, seqI_step a l i (by omega), w64_succ (by omega), w64 (by omega) (by omega), show a + (i : Int) + 1 = a + ((i + 1 : Nat) : Int) by omega]
  refine Ev.congr (fun k => ?_) (loop l.length 0 (by omega))
  rw [laws_markIntS.f]
  simp [seqI]
theorem heldIntS_ev (a : Int) (n : Nat) (h0 : 0 ≤ a) (h1 : a + n ≤ 1125899906842624) : Ev (fun k => laws_heldIntS.f k (seqI a n) a) (a + n) := by
  have loop : ∀ (d i : Nat), i + d = n → Ev (fun k => laws_heldIntS.l0 k (seqI a n) (a + i) i) (a + n) := by
    intro d
    induction d with
    | zero =>
      intro i hi
      obtain rfl : i = n := by omega
      refine Ev.step (f := fun _ => some (a + i)) (fun k => ?_) (Ev.now _)
      rw [laws_heldIntS.l0, if_neg (by rw [seqI_len]; omega)]
    | succ d ih =>
      intro i hi
      refine Ev.step (f := fun k => laws_heldIntS.l0 k (seqI a n) (a + ((i + 1 : Nat) : Int)) ((i + 1 : Nat) : Int)) (fun k => ?_) (ih (i + 1) (by omega))
      rw [laws_heldIntS.l0, if_pos (by rw [seqI_len]; omega), if_pos (by omega), seqI_rd a n i (by omega), if_pos rfl, w64_succ (by omega), w64 (by omega) (by omega), show a + (i : Int) + 1 = a + ((i + 1 : Nat) : Int) by omega]
  refine Ev.congr (fun k => ?_) (loop n 0 (by omega))
  rw [laws_heldIntS.f]
  simp

theorem markSub_ev (n v : List Int) (a : Int) (h0 : 0 ≤ a) (h1 : a + n.length + v.length ≤ 1125899906842624) : Ev (fun k => laws_markSubstitution.f k n v a) (a + n.length + v.length, seqI a n.length, seqI (a + n.length) v.length) := by
  refine Ev.congr (fun k => by rw [laws_markSubstitution.f]) ?_
  exact Ev.bind (markIntS_ev n a h0 (by omega)) (Ev.bind (markIntS_ev v (a + n.length) (by omega) (by omega)) (Ev.now _))

theorem heldSub_ev (a : Int) (n m : Nat) (h0 : 0 ≤ a) (h1 : a + n + m ≤ 1125899906842624) : Ev (fun k => laws_heldSubstitution.f k (seqI a n) (seqI (a + n) m) a) (a + n + m) := by
  refine Ev.congr (fun k => by rw [laws_heldSubstitution.f]) ?_
  refine Ev.bind (heldIntS_ev a n h0 (by omega)) ?_
  simp only [show ¬ (a + (n : Int) < 0) by omega, if_false]
  refine Ev.bind (heldIntS_ev (a + n) m (by omega) (by omega)) ?_
  simp only [show ¬ (a + (n : Int) + (m : Int) < 0) by omega, if_false]
  exact Ev.now _

/-- Put into an ascending list, each once. -/
def insU (x : Int) : List Int → List Int
  | [] => [x]
  | y :: l => if y < x then y :: insU x l else if y = x then y :: l else x :: y :: l
theorem mem_insU (x z : Int) : ∀ l : List Int, z ∈ insU x l ↔ z = x ∨ z ∈ l
  | [] => by simp [insU]
  | y :: l => by
    unfold insU
    by_cases c : y < x
    · rw [if_pos c, List.mem_cons, List.mem_cons, mem_insU x z l]
      constructor <;> rintro (h | h | h) <;> simp [h]
    · rw [if_neg c]
      by_cases c2 : y = x
      · rw [if_pos c2]; subst c2; simp
      · rw [if_neg c2]; simp
theorem insU_up (x : Int) : ∀ l : List Int, l.Pairwise (· < ·) → (insU x l).Pairwise (· < ·)
  | [], _ => by simp [insU]
  | y :: l, h => by
    rw [List.pairwise_cons] at h
    unfold insU
    by_cases c : y < x
    · rw [if_pos c, List.pairwise_cons]
      refine ⟨fun z hz => ?_, insU_up x l h.2⟩
      rcases (mem_insU x z l).1 hz with rfl | hz
      · exact c
      · exact h.1 z hz
    · rw [if_neg c]
      by_cases c2 : y = x
      · rw [if_pos c2, List.pairwise_cons]; exact h
      · rw [if_neg c2, List.pairwise_cons, List.pairwise_cons]
        refine ⟨fun z hz => ?_, h⟩
        rcases List.mem_cons.1 hz with rfl | hz
        · omega
        · have := h.1 z hz; omega
theorem insU_len (x : Int) : ∀ l : List Int, (insU x l).length ≤ l.length + 1
  | [] => by simp [insU]
  | y :: l => by
    have := insU_len x l
    unfold insU
    split
    · simp; omega
    · split <;> simp
/-- Two ascending lists with the same elements are one. -/
theorem up_ext : ∀ a b : List Int, a.Pairwise (· < ·) → b.Pairwise (· < ·) → (∀ x, x ∈ a ↔ x ∈ b) → a = b
  | [], [], _, _, _ => rfl
  | [], y :: b, _, _, h => absurd ((h y).2 (by simp)) (by simp)
  | x :: a, [], _, _, h => absurd ((h x).1 (by simp)) (by simp)
  | x :: a, y :: b, ha, hb, h => by
    rw [List.pairwise_cons] at ha hb
    have e : x = y := by
      rcases List.mem_cons.1 ((h x).1 (by simp)) with e | hx
      · exact e
      · rcases List.mem_cons.1 ((h y).2 (by simp)) with e | hy
        · exact e.symm
        · have h1 := hb.1 x hx
          have h2 := ha.1 y hy
          omega
    subst e
    rw [up_ext a b ha.2 hb.2 (fun z => ?_)]
    constructor
    · intro hz
      rcases List.mem_cons.1 ((h z).1 (List.mem_cons_of_mem _ hz)) with e | hz'
      · have := ha.1 z hz; omega
      · exact hz'
    · intro hz
      rcases List.mem_cons.1 ((h z).2 (List.mem_cons_of_mem _ hz)) with e | hz'
      · have := hb.1 z hz; omega
      · exact hz'
/-- An array in order, of which neighbours that are equal go: ascending, each once. -/
theorem compactUpTo_up (d : Array Int) (hs : ∀ i j, i < j → j < d.size → d[i]! ≤ d[j]!) : ∀ m, m ≤ d.size → (Go.Lib.compactUpTo d m).Pairwise (· < ·) ∧ (∀ x, x ∈ Go.Lib.compactUpTo d m ↔ ∃ j, j < m ∧ d[j]! = x) := by
  intro m
  induction m with
  | zero => intro _; simp [Go.Lib.compactUpTo]
  | succ m ih =>
    intro hm
    obtain ⟨h1, h2⟩ := ih (by omega)
    rw [Go.Lib.compactUpTo_succ]
    by_cases c : Go.Lib.keeps d m = true
    · rw [if_pos c]
      have hk : m = 0 ∨ d[m]! ≠ d[m - 1]! := by simpa [Go.Lib.keeps] using c
      refine ⟨?_, fun x => ?_⟩
      · rw [List.pairwise_append]
        refine ⟨h1, by simp, fun x hx y hy => ?_⟩
        obtain rfl : y = d[m]! := by simpa using hy
        obtain ⟨j, hj, rfl⟩ := (h2 x).1 hx
        rcases hk with hk | hk
        · omega
        · have a1 : d[m - 1]! ≤ d[m]! := hs (m - 1) m (by omega) (by omega)
          have a2 : d[j]! ≤ d[m - 1]! := by
            by_cases e : j = m - 1
            · rw [e]; exact Int.le_refl _
            · exact hs j (m - 1) (by omega) (by omega)
          omega
      · rw [List.mem_append, h2]
        constructor
        · rintro (⟨j, hj, e⟩ | h)
          · exact ⟨j, by omega, e⟩
          · exact ⟨m, by omega, (List.mem_singleton.1 h).symm⟩
        · rintro ⟨j, hj, e⟩
          by_cases c2 : j = m
          · subst c2; exact .inr (by simp [e])
          · exact .inl ⟨j, by omega, e⟩
    · rw [if_neg c, List.append_nil]
      refine ⟨h1, fun x => ?_⟩
      have hk : ¬ (m = 0 ∨ d[m]! ≠ d[m - 1]!) := by simpa [Go.Lib.keeps] using c
      have hm0 : m ≠ 0 := fun e => hk (.inl e)
      have he : d[m]! = d[m - 1]! := by
        by_cases e : d[m]! = d[m - 1]!
        · exact e
        · exact absurd (.inr e) hk
      rw [h2]
      constructor
      · rintro ⟨j, hj, e⟩; exact ⟨j, by omega, e⟩
      · rintro ⟨j, hj, e⟩
        by_cases c2 : j = m
        · subst c2; exact ⟨j - 1, by omega, by rw [← he]; exact e⟩
        · exact ⟨j, by omega, e⟩
/-- Sorted, then made sparse: what the two library calls come to. -/
def sortU (l : List Int) : List Int := Go.Lib.compact (l.mergeSort fun x y => decide (x ≤ y))
theorem sortU_up (l : List Int) : (sortU l).Pairwise (· < ·) ∧ ∀ x, x ∈ sortU l ↔ x ∈ l := by
  have hp := List.mergeSort_perm l (fun x y : Int => decide (x ≤ y))
  have ho : (l.mergeSort fun x y : Int => decide (x ≤ y)).Pairwise (fun x y => decide (x ≤ y) = true) := List.pairwise_mergeSort (fun a b c h1 h2 => by simp at *; omega) (fun a b => by simp; omega) l
  unfold sortU
  generalize hs : (l.mergeSort fun x y : Int => decide (x ≤ y)) = s at hp ho
  have hg : ∀ j, (h : j < s.length) → (s.toArray)[j]! = s[j] := fun j h => by simp [h]
  have h := compactUpTo_up s.toArray (fun i j hij hj => by
    have hj' : j < s.length := by simpa using hj
    rw [hg i (by omega), hg j hj']
    have := (List.pairwise_iff_getElem.1 ho) i j (by omega) hj' hij
    simpa using this) s.length (by simp)
  refine ⟨h.1, fun x => ?_⟩
  unfold Go.Lib.compact
  rw [h.2]
  rw [← hp.mem_iff]
  constructor
  · rintro ⟨j, hj, e⟩
    rw [hg j hj] at e
    exact e ▸ List.getElem_mem hj
  · intro hx
    obtain ⟨j, hj, e⟩ := List.mem_iff_getElem.1 hx
    exact ⟨j, hj, by rw [hg j hj]; exact e⟩
def isN (v : Int) : Bool := decide (-40 ≤ v ∧ v ≤ -1)
/-- The numbers of the nulls among values, as they come. -/
def nullsIn (l : List Int) : List Int := (l.filter isN).map (fun v => -1 - v)
/-- .. each once, ascending. -/
def nullsS (l : List Int) : List Int := sortU (nullsIn l)
theorem mem_nullsIn (l : List Int) (k : Int) : k ∈ nullsIn l ↔ (0 ≤ k ∧ k ≤ 39) ∧ (-1 - k) ∈ l := by
  unfold nullsIn isN
  rw [List.mem_map]
  constructor
  · rintro ⟨v, hv, rfl⟩
    rw [List.mem_filter, decide_eq_true_eq] at hv
    exact ⟨by omega, by rw [show -1 - (-1 - v) = v by omega]; exact hv.1⟩
  · rintro ⟨h1, h2⟩
    exact ⟨-1 - k, List.mem_filter.2 ⟨h2, by rw [decide_eq_true_eq]; omega⟩, by omega⟩
/-- An ascending list with just these elements is it. -/
theorem nullsS_unique (l out : List Int) (hu : out.Pairwise (· < ·)) (hm : ∀ k, k ∈ out ↔ k ∈ nullsIn l) : out = nullsS l := by
  obtain ⟨h1, h2⟩ := sortU_up (nullsIn l)
  exact up_ext _ _ hu h1 (fun k => by rw [hm, ← h2]; rfl)
theorem up_len : ∀ (l : List Int) (a : Int) (b : Nat), l.Pairwise (· < ·) → (∀ x ∈ l, a ≤ x ∧ x < a + b) → l.length ≤ b
  | [], _, _, _, _ => Nat.zero_le _
  | x :: l, a, b, h, hb => by
    rw [List.pairwise_cons] at h
    have hx := hb x (by simp)
    have := up_len l (x + 1) ((a + b - (x + 1)).toNat) h.2 (fun y hy => by
      have h1 := h.1 y hy
      have h2 := hb y (List.mem_cons_of_mem _ hy)
      omega)
    simp only [List.length_cons]
    omega
theorem nullsS_props (l : List Int) : (nullsS l).Pairwise (· < ·) ∧ (nullsS l).length ≤ 40 ∧ ∀ k ∈ nullsS l, 0 ≤ k ∧ k ≤ 39 := by
  obtain ⟨h1, h2⟩ := sortU_up (nullsIn l)
  have h3 : ∀ k ∈ nullsS l, 0 ≤ k ∧ k ≤ 39 := fun k hk => ((mem_nullsIn l k).1 ((h2 k).1 hk)).1
  exact ⟨h1, up_len _ 0 40 h1 (fun x hx => by have := h3 x hx; omega), h3⟩

theorem getD_mem_or (l : List Int) (i : Nat) (h : i < l.length) : l.getD i 0 = l[i] := by rw [List.getD_eq_getElem?_getD, List.getElem?_eq_getElem h]; rfl
theorem validSub_mem (n v : List Int) (h : validSub n v = true) : ∀ x ∈ n, 0 ≤ x ∧ x ≤ 39 := by
  intro x hx
  unfold validSub at h
  simp only [Bool.and_eq_true, decide_eq_true_eq] at h
  obtain ⟨j, hj, rfl⟩ := List.mem_iff_getElem.1 hx
  have := okSub_range n v n.length 0 h.2 j (by omega) (by omega)
  rw [getD_mem_or n j hj] at this
  exact ⟨this.1, this.2.1⟩
theorem look_GI (n v : List Int) (x : Int) (hx : GI x) (gv : ∀ y ∈ v, GI y) : ∀ (d i : Nat), GI (look n v x i d)
  | 0, _ => hx
  | d + 1, i => by
    unfold look
    split
    · exact gi_getD gv i
    · exact look_GI n v x hx gv d (i + 1)
theorem applyV_GI (n v : List Int) (x : Int) (hx : GI x) (gv : ∀ y ∈ v, GI y) : GI (applyV n v x) := by
  unfold applyV
  split
  · exact look_GI n v x hx gv _ _
  · exact hx
def stepC (an av bn bv : List Int) (k : Int) : Int := applyV bn bv (applyV an av (-1 - k))
/-- What Compose answers. -/
def compS (an av bn bv : List Int) : List Int × List Int × Bool :=
  if validSub an av = true ∧ validSub bn bv = true then (sortU (an ++ bn), (sortU (an ++ bn)).map (stepC an av bn bv), true) else ([], [], false)
theorem l4Has_ev (l : List Int) (x : Int) (hl : l.length ≤ 1048576) : Ev (fun k => spec_l4Has.f k l x) (decide (x ∈ l)) := by
  have loop : ∀ (d i : Nat), i + d = l.length → Ev (fun k => spec_l4Has.l0 k l x i) (decide (x ∈ l.drop i)) := by
    intro d
    induction d with
    | zero =>
      intro i hi
      refine Ev.step (f := fun _ => some (decide (x ∈ l.drop i))) (fun k => ?_) (Ev.now _)
      rw [spec_l4Has.l0, if_neg (by omega), List.drop_of_length_le (by omega)]
      rfl
    | succ d ih =>
      intro i hi
      have h1 : i < l.length := by omega
      rw [drop_get l i h1]
      by_cases c : l[i] = x
      · refine Ev.step (f := fun _ => some (decide (x ∈ l[i] :: l.drop (i + 1)))) (fun k => ?_) (Ev.now _)
        rw [spec_l4Has.l0, if_pos (by omega), if_pos (by omega), rd_get l i h1, if_pos c, decide_eq_true (by rw [c]; simp)]
      · refine Ev.step (fun k => by rw [spec_l4Has.l0, if_pos (by omega), if_pos (by omega), rd_get l i h1, if_neg c, w64_succ (by omega)]) ?_
        have e : decide (x ∈ l[i] :: l.drop (i + 1)) = decide (x ∈ l.drop (i + 1)) := decide_eq_decide.2 ⟨fun h => by
          rcases List.mem_cons.1 h with h | h
          · exact absurd h.symm c
          · exact h, List.mem_cons_of_mem _⟩
        rw [e]
        exact ih (i + 1) (by omega)
  have e := loop l.length 0 (by omega)
  rw [List.drop_zero] at e
  exact Ev.congr (fun k => by rw [spec_l4Has.f]; rfl) e
theorem sortU_props (an av bn bv : List Int) (ha : validSub an av = true) (hb : validSub bn bv = true) : (sortU (an ++ bn)).length ≤ 40 ∧ ∀ k ∈ sortU (an ++ bn), 0 ≤ k ∧ k ≤ 39 := by
  obtain ⟨h1, h2⟩ := sortU_up (an ++ bn)
  have h3 : ∀ k ∈ sortU (an ++ bn), 0 ≤ k ∧ k ≤ 39 := fun k hk => by
    rcases List.mem_append.1 ((h2 k).1 hk) with h | h
    · exact validSub_mem an av ha k h
    · exact validSub_mem bn bv hb k h
  exact ⟨up_len _ 0 40 h1 (fun x hx => by have := h3 x hx; omega), h3⟩
theorem specCompose_ev (an av bn bv : List Int) (h1 : an.length ≤ 1048576) (h3 : bn.length ≤ 1048576) (g1 : ∀ x ∈ an, GI x) (g2 : ∀ x ∈ av, GI x) (g3 : ∀ x ∈ bn, GI x) (g4 : ∀ x ∈ bv, GI x) :
    Ev (fun k => spec_Compose.f k an av bn bv) (compS an av bn bv) := by
  refine Ev.congr (fun k => by rw [spec_Compose.f]) (Ev.bind (specValidSub_ev an av (by omega) g2) ?_)
  have hbad : Ev (fun k => spec_Compose.j0 k true an av bn bv) ([], [], false) := by
    refine Ev.step (f := fun _ => some ([], [], false)) (fun k => ?_) (Ev.now _)
    rw [spec_Compose.j0, if_pos rfl]
  unfold compS
  cases ca : validSub an av with
  | false => simp only [Bool.false_eq_true, if_false, false_and]; exact hbad
  | true =>
    simp only [if_true, true_and]
    refine Ev.bind (specValidSub_ev bn bv (by omega) g4) ?_
    cases cb : validSub bn bv with
    | false => simp only [Bool.false_eq_true, if_false, Bool.not_false]; exact hbad
    | true =>
      simp only [if_true, Bool.not_true]
      obtain ⟨hl, hr⟩ := sortU_props an av bn bv ca cb
      obtain ⟨u1, u2⟩ := sortU_up (an ++ bn)
      have loop : ∀ (d c : Nat) (q : List Int), c + d = 40 → q.Pairwise (· < ·) → (∀ k, k ∈ q ↔ (0 ≤ k ∧ k < c) ∧ k ∈ an ++ bn) → Ev (fun k => spec_Compose.l0 k c an av bn bv q (q.map (stepC an av bn bv))) (sortU (an ++ bn), (sortU (an ++ bn)).map (stepC an av bn bv), true) := by
        intro d
        induction d with
        | zero =>
          intro c q hc hu hm
          have e : q = sortU (an ++ bn) := up_ext _ _ hu u1 (fun k => by
            rw [hm, u2]
            constructor
            · exact fun h => h.2
            · intro h
              have := hr k ((u2 k).2 h)
              exact ⟨by omega, h⟩)
          subst e
          refine Ev.step (f := fun _ => some (sortU (an ++ bn), (sortU (an ++ bn)).map (stepC an av bn bv), true)) (fun k => ?_) (Ev.now _)
          rw [spec_Compose.l0, if_neg (by omega)]
        | succ d ih =>
          intro c q hc hu hm
          have hq : q.length ≤ 40 := up_len q 0 40 hu (fun x hx => by have := ((hm x).1 hx).1; omega)
          have gc : GI (-1 - (c : Int)) := by unfold GI; omega
          have ew : wrap64 ((-1) - (c : Int)) = -1 - c := w64 (by omega) (by omega)
          have hno : ((c : Int) ∉ an ++ bn) → Ev (fun k => spec_Compose.j2 k c false an av bn bv q (q.map (stepC an av bn bv))) (sortU (an ++ bn), (sortU (an ++ bn)).map (stepC an av bn bv), true) := by
            intro hn
            refine Ev.step (fun k => by rw [spec_Compose.j2, if_neg (by simp), w64_succ (by omega)]) (ih (c + 1) q (by omega) hu (fun k => ?_))
            rw [hm]
            constructor
            · rintro ⟨a, b⟩; exact ⟨by omega, b⟩
            · rintro ⟨a, b⟩
              refine ⟨⟨a.1, ?_⟩, b⟩
              by_cases e : k = c
              · subst e; exact absurd b hn
              · omega
          have hyes : ((c : Int) ∈ an ++ bn) → Ev (fun k => spec_Compose.j2 k c true an av bn bv q (q.map (stepC an av bn bv))) (sortU (an ++ bn), (sortU (an ++ bn)).map (stepC an av bn bv), true) := by
            intro hy
            have ihx := ih (c + 1) (q ++ [(c : Int)]) (by omega) (by
              rw [List.pairwise_append]
              refine ⟨hu, by simp, fun x hx y hy' => ?_⟩
              have := ((hm x).1 hx).1
              obtain rfl := List.mem_singleton.1 hy'
              exact this.2) (fun k => by
              rw [List.mem_append, hm, List.mem_singleton]
              constructor
              · rintro (⟨a, b⟩ | rfl)
                · exact ⟨by omega, b⟩
                · exact ⟨by omega, hy⟩
              · rintro ⟨a, b⟩
                by_cases e : k = c
                · exact .inr e
                · exact .inl ⟨by omega, b⟩)
            rw [List.map_append] at ihx
            refine Ev.step (fun k => by rw [spec_Compose.j2, if_pos rfl, if_pos (by omega), spec_NullValue.f, Option.bind_some, ew, w64_succ (by omega)]) (Ev.bind (specApplyV_ev an av _ h1 g1 g2 gc) (Ev.bind (specApplyV_ev bn bv _ h3 g3 g4 (applyV_GI _ _ _ gc g2)) ?_))
            refine Ev.congr (fun k => ?_) ihx
            rw [if_pos (by simp; omega)]
            rfl
          refine Ev.step (fun k => by rw [spec_Compose.l0, if_pos (by omega)]) (Ev.bind (l4Has_ev an c h1) ?_)
          by_cases ma : (c : Int) ∈ an
          · rw [decide_eq_true ma]
            simp only [if_true]
            exact hyes (List.mem_append_left _ ma)
          · rw [decide_eq_false ma]
            simp only [Bool.false_eq_true, if_false]
            refine Ev.bind (l4Has_ev bn c h3) ?_
            by_cases mb : (c : Int) ∈ bn
            · rw [decide_eq_true mb]; exact hyes (List.mem_append_right _ mb)
            · rw [decide_eq_false mb]
              exact hno (fun h => by rcases List.mem_append.1 h with h | h; exact ma h; exact mb h)
      exact Ev.step (fun k => by rw [spec_Compose.j0, if_neg (by simp)]; rfl) (loop 40 0 [] (by omega) (by simp) (by intro k; simp; omega))
theorem concat_ev (a b : List Int) (ha : a.length ≤ 1048576) (hb : b.length ≤ 1048576) : Ev (fun k => slices_Concat_int_int.f k [a, b]) (a ++ b) := by
  have r0 : rd_L1 [a, b] 0 = a := rfl
  have r1 : rd_L1 [a, b] 1 = b := rfl
  have hl : (([a, b] : List (List Int)).length : Int) = 2 := rfl
  have w1 : wrap64 (0 + (a.length : Int)) = a.length := by rw [w64 (by omega) (by omega)]; omega
  have w2 : wrap64 ((a.length : Int) + (b.length : Int)) = a.length + b.length := w64 (by omega) (by omega)
  have w3 : wrap64 (0 + 1) = 1 := by rw [w64 (by omega) (by omega)]; rfl
  have w4 : wrap64 (1 + 1) = 2 := by rw [w64 (by omega) (by omega)]; rfl
  have last : Ev (fun k => slices_Concat_int_int.l1 k [] [a, b] 2 0) (a ++ b) := by
    refine Ev.step (fun k => by rw [slices_Concat_int_int.l1, if_pos (by omega), if_pos (by omega), hl, if_pos (by omega), r0, if_pos (by simp; omega), w3]) ?_
    refine Ev.step (fun k => by rw [slices_Concat_int_int.l1, if_pos (by omega), if_pos (by omega), hl, if_pos (by omega), r1, if_pos (by simp; omega), w4]) ?_
    refine Ev.step (f := fun _ => some (a ++ b)) (fun k => ?_) (Ev.now _)
    rw [slices_Concat_int_int.l1, if_neg (by omega), List.nil_append]
  refine Ev.congr (fun k => by rw [slices_Concat_int_int.f, hl]) ?_
  refine Ev.step (fun k => by rw [slices_Concat_int_int.l0, if_pos (by omega), if_pos (by omega), hl, if_pos (by omega), r0, w1, if_neg (by omega), w3]) ?_
  refine Ev.step (fun k => by rw [slices_Concat_int_int.l0, if_pos (by omega), if_pos (by omega), hl, if_pos (by omega), r1, w2, if_neg (by omega), w4]) ?_
  refine Ev.step (fun k => by rw [slices_Concat_int_int.l0, if_neg (by omega), slices_Grow_int_int.f, if_pos ⟨rfl, by omega, by omega⟩, Option.bind_some, hl]) last
theorem implCompose_ev (an av bn bv : List Int) (h1 : an.length ≤ 1048576) (h3 : bn.length ≤ 1048576) (g2 : ∀ x ∈ av, GI x) :
    Ev (fun k => impl_Compose.f k an av bn bv) (compS an av bn bv) := by
  refine Ev.congr (fun k => by rw [impl_Compose.f]) (Ev.bind (implValidSub_ev an av (by omega)) ?_)
  have hbad : Ev (fun k => impl_Compose.j0 k true an av bn bv) ([], [], false) := by
    refine Ev.step (f := fun _ => some ([], [], false)) (fun k => ?_) (Ev.now _)
    rw [impl_Compose.j0, if_pos rfl]
  unfold compS
  cases ca : validSub an av with
  | false => simp only [Bool.false_eq_true, if_false, false_and]; exact hbad
  | true =>
    simp only [if_true, true_and]
    refine Ev.bind (implValidSub_ev bn bv (by omega)) ?_
    cases cb : validSub bn bv with
    | false => simp only [Bool.false_eq_true, if_false, Bool.not_false]; exact hbad
    | true =>
      simp only [if_true, Bool.not_true]
      obtain ⟨hl, hr⟩ := sortU_props an av bn bv ca cb
      have loop : ∀ (d i : Nat), i + d = (sortU (an ++ bn)).length → Ev (fun k => impl_Compose.l0 k (sortU (an ++ bn)) (sortU (an ++ bn)).length i an av bn bv (sortU (an ++ bn)) (((sortU (an ++ bn)).take i).map (stepC an av bn bv))) (sortU (an ++ bn), (sortU (an ++ bn)).map (stepC an av bn bv), true) := by
        generalize sortU (an ++ bn) = q at hl hr
        intro d
        induction d with
        | zero =>
          intro i hi
          refine Ev.step (f := fun _ => some (q, q.map (stepC an av bn bv), true)) (fun k => ?_) (Ev.now _)
          rw [impl_Compose.l0, if_neg (by omega), List.take_of_length_le (by omega)]
        | succ d ih =>
          intro i hi
          have hi1 : i < q.length := by omega
          have hk := hr q[i] (List.getElem_mem hi1)
          have gc : GI (-1 - q[i]) := by unfold GI; omega
          have ew : wrap64 ((-1) - q[i]) = -1 - q[i] := w64 (by omega) (by omega)
          have ihx := ih (i + 1) (by omega)
          rw [List.take_succ_eq_append_getElem hi1, List.map_append] at ihx
          refine Ev.step (fun k => by rw [impl_Compose.l0, if_pos (by omega), if_pos (by omega), if_pos (by omega), rd_get q i hi1, impl_NullValue.f, Option.bind_some, ew, w64_succ (by omega)]) (Ev.bind (implApplyV_ev an av _ h1 gc) (Ev.bind (implApplyV_ev bn bv _ h3 (applyV_GI _ _ _ gc g2)) ?_))
          refine Ev.congr (fun k => ?_) ihx
          rw [if_pos (by simp; omega)]
          rfl
      refine Ev.step (fun k => by rw [impl_Compose.j0, if_neg (by simp)]) (Ev.bind (concat_ev an bn h1 h3) ?_)
      refine Ev.congr (fun k => ?_) (loop (sortU (an ++ bn)).length 0 (by omega))
      rw [slices_Sort_int_int.f, if_pos (by simp; omega), Option.bind_some, slices_Compact_int_int.f, if_pos (by rw [List.length_mergeSort]; simp; omega), Option.bind_some]
      rfl

theorem FnExactCompose (l0_0 : List Int) (l0_1 : List Int) (l1_0 : List Int) (l1_1 : List Int) (g0_0 : (GL GI) l0_0) (g0_1 : (GL GI) l0_1) (g1_0 : (GL GI) l1_0) (g1_1 : (GL GI) l1_1) : ∃ k, laws_FnExactCompose.f k l0_0 l0_1 l1_0 l1_1 = some true := by
  obtain ⟨r, e, h⟩ := szSubstitution_f l0_0 l0_1 g0_0.1 g0_1.1 1048576 (by omega) (by omega)
  refine Ev.rounds (r := true) (Ev.congr (fun k => by rw [laws_FnExactCompose.f, e, Option.bind_some]) ?_)
  rcases h with h | h
  · simp only [h, if_true]; exact Ev.now _
  · simp only [show ¬ r < 0 by omega, if_false]
    obtain ⟨r2, e2, h2⟩ := szSubstitution_f l1_0 l1_1 g1_0.1 g1_1.1 r (by omega) (by omega)
    refine Ev.congr (fun k => by rw [e2, Option.bind_some]) ?_
    rcases h2 with h2 | h2
    · simp only [h2, if_true]; exact Ev.now _
    · simp only [show ¬ r2 < 0 by omega, if_false]
      have t1 := toSubstitution_ev l0_0 l0_1 (by omega) (by omega)
      have t2 := toSubstitution_ev l1_0 l1_1 (by omega) (by omega)
      have sp := specCompose_ev l0_0 l0_1 l1_0 l1_1 (by omega) (by omega) g0_0.2 g0_1.2 g1_0.2 g1_1.2
      have im := implCompose_ev l0_0 l0_1 l1_0 l1_1 (by omega) (by omega) g0_1.2
      have hz : (compS l0_0 l0_1 l1_0 l1_1).1.length ≤ 40 ∧ (compS l0_0 l0_1 l1_0 l1_1).2.1.length ≤ 40 := by
        unfold compS
        by_cases c : validSub l0_0 l0_1 = true ∧ validSub l1_0 l1_1 = true
        · rw [if_pos c]
          have := (sortU_props _ _ _ _ c.1 c.2).1
          exact ⟨this, by show (List.map _ _).length ≤ 40; rw [List.length_map]; exact this⟩
        · rw [if_neg c]; exact ⟨by decide, by decide⟩
      generalize compS l0_0 l0_1 l1_0 l1_1 = y at sp im hz
      obtain ⟨yn, yv, yb⟩ := y
      simp only at hz
      have q := eqSubstitution_ev yn yv (by omega) (by omega)
      have q1 := eqSubstitution_ev l0_0 l0_1 (by omega) (by omega)
      have q2 := eqSubstitution_ev l1_0 l1_1 (by omega) (by omega)
      have hm := markSub_ev yn yv 1 (by omega) (by omega)
      have hh := heldSub_ev 1 yn.length yv.length (by omega) (by omega)
      have m1 := markSub_ev l0_0 l0_1 1 (by omega) (by omega)
      have m2 := markSub_ev l1_0 l1_1 (1 + l0_0.length + l0_1.length) (by omega) (by omega)
      have hj2 : Ev (fun k => laws_FnExactCompose.j2 k (1 + (yn.length : Int) + (yv.length : Int)) (yb != yb) (seqI 1 yn.length) (seqI (1 + yn.length) yv.length)) true := by
        refine Ev.step (fun k => by rw [laws_FnExactCompose.j2, if_neg (by simp)]) (Ev.bind hh ?_)
        simp only [show ¬ (1 + (yn.length : Int) + (yv.length : Int) < 0) by omega, if_false, if_true]
        exact Ev.now _
      have hj1 : Ev (fun k => laws_FnExactCompose.j1 k yb (yb != yb) l0_0 l0_1 l1_0 l1_1 yn yv yn yv) true := by
        refine Ev.step (fun k => by rw [laws_FnExactCompose.j1, if_neg (by simp)]) (Ev.bind hm (Ev.bind hh ?_))
        simp only [show ¬ (1 + (yn.length : Int) + (yv.length : Int) < 0) by omega, if_false, if_true]
        refine Ev.bind t1 (Ev.bind t2 (Ev.bind im (Ev.bind q ?_)))
        simp only [if_true]
        exact hj2
      have hj0 : Ev (fun k => laws_FnExactCompose.j0 k yb yb (yb != yb) l0_0 l0_1 l1_0 l1_1 yn yv l0_0 l0_1 l1_0 l1_1 yn yv) true := by
        refine Ev.step (fun k => by rw [laws_FnExactCompose.j0, if_neg (by simp)]) (Ev.bind t1 (Ev.bind q1 ?_))
        simp only [if_true]
        refine Ev.bind t2 (Ev.bind q2 ?_)
        simp only [if_true]
        refine Ev.bind m1 (Ev.bind m2 ?_)
        simp only [show ¬ (1 + (l0_0.length : Int) + (l0_1.length : Int) + (l1_0.length : Int) + (l1_1.length : Int) < 0) by omega, if_false]
        refine Ev.bind q ?_
        simp only [if_true]
        exact hj1
      refine Ev.bind t1 (Ev.bind t2 (Ev.bind sp (Ev.bind t1 (Ev.bind t2 (Ev.bind im (Ev.bind q ?_))))))
      simp only [if_true]
      exact hj0

end Go.Proofs.Ytjphbdnfbkfgiaa.Pure
