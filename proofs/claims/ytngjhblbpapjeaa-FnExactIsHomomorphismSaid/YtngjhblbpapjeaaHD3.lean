/- Substitutions, applied; homomorphisms. Plain. No condition. -/
import Derived.Test.YtngjhblbpapjeaaHD2
import Derived.Test.YtngjhblbpapjeaaHB6
namespace Go.Proofs.Ytngjhblbpapjeaa.H
open Go Go.RowKit Go.Proofs.YtngjhblbpapjeaaW.PrintWords Go.Proofs.YtngjhblbpapjeaaW.PrintLast
set_option linter.unusedVariables false
set_option linter.unusedSimpArgs false

/-- Substitutions: nulls in order, values. -/
def subFrom : Option Int → List Int → List Int → Bool
  | _, [], _ => true
  | p, k :: ns, vs => within k 0 39 && (match p with | none => true | some q => decide (q < k)) && okVal (vs.headD 0) && subFrom (some k) ns vs.tail
def okSub (ns vs : List Int) : Bool := decide (ns.length = vs.length) && subFrom none ns vs
def prevI (l : List Int) (k : Nat) : Option Int := if k = 0 then none else l[k - 1]?
def okPrevI (p : Option Int) (k : Int) : Bool := match p with | none => true | some q => decide (q < k)
theorem subFrom_step (ns vs : List Int) (k : Nat) (h : k < ns.length) (h2 : k < vs.length) : subFrom (prevI ns k) (ns.drop k) (vs.drop k) = (within ns[k] 0 39 && okPrevI (prevI ns k) ns[k] && okVal vs[k] && subFrom (prevI ns (k + 1)) (ns.drop (k + 1)) (vs.drop (k + 1))) := by
  rw [List.drop_eq_getElem_cons h, List.drop_eq_getElem_cons h2, show prevI ns (k + 1) = some ns[k] by simp [prevI, h]]
  rfl
theorem subFrom_mem {p : Option Int} {ns vs : List Int} (h : subFrom p ns vs = true) (hl : ns.length = vs.length) : (∀ k ∈ ns, 0 ≤ k ∧ k ≤ 39) ∧ (∀ v ∈ vs, -40 ≤ v ∧ v ≤ 9) ∧ ns.Pairwise (· < ·) ∧ ∀ q, p = some q → ∀ k ∈ ns, q < k := by
  induction ns generalizing p vs with
  | nil =>
    cases vs with
    | nil => simp
    | cons v vs => simp at hl
  | cons k ns ih =>
    cases vs with
    | nil => simp at hl
    | cons v vs =>
      simp only [subFrom, Bool.and_eq_true, List.headD_cons, List.tail_cons] at h
      obtain ⟨⟨⟨h1, h2⟩, h3⟩, h4⟩ := h
      obtain ⟨i1, i2, i3, i4⟩ := ih h4 (by simpa using hl)
      simp only [within, okVal, decide_eq_true_eq] at h1 h3
      refine ⟨fun x hx => ?_, fun x hx => ?_, ?_, fun q hq x hx => ?_⟩
      · rcases List.mem_cons.1 hx with rfl | hx
        · exact h1
        · exact i1 x hx
      · rcases List.mem_cons.1 hx with rfl | hx
        · exact h3
        · exact i2 x hx
      · rw [List.pairwise_cons]; exact ⟨i4 k rfl, i3⟩
      · subst hq
        have hqk : q < k := by simpa using h2
        rcases List.mem_cons.1 hx with rfl | hx
        · exact hqk
        · have := i4 k rfl x hx; omega
theorem okSub_spec {ns vs : List Int} (h : okSub ns vs = true) : ns.length = vs.length ∧ (∀ k ∈ ns, 0 ≤ k ∧ k ≤ 39) ∧ (∀ v ∈ vs, -40 ≤ v ∧ v ≤ 9) ∧ ns.Pairwise (· < ·) := by
  simp only [okSub, Bool.and_eq_true, decide_eq_true_eq] at h
  obtain ⟨a, b, c, _⟩ := subFrom_mem h.2 h.1
  exact ⟨h.1, a, b, c⟩
def findV : List Int → List Int → Int → Option Int
  | n :: ns, v :: vs, x => if -1 - n = x then some v else findV ns vs x
  | _, _, _ => none
def appV (ns vs : List Int) (x : Int) : Int := if okSub ns vs then (findV ns vs x).getD x else x
theorem findV_step (ns vs : List Int) (x : Int) (k : Nat) (h : k < ns.length) (h2 : k < vs.length) : findV (ns.drop k) (vs.drop k) x = if -1 - ns[k] = x then some vs[k] else findV (ns.drop (k + 1)) (vs.drop (k + 1)) x := by
  rw [List.drop_eq_getElem_cons h, List.drop_eq_getElem_cons h2]; rfl
theorem findV_nil (ns vs : List Int) (x : Int) (k : Nat) (h : ns.length ≤ k) : findV (ns.drop k) (vs.drop k) x = none := by
  rw [List.drop_of_length_le h]; rfl
theorem findV_mem : ∀ (ns vs : List Int) (x y : Int), findV ns vs x = some y → y ∈ vs
  | [], _, _, _, h => by simp [findV] at h
  | _ :: _, [], _, _, h => by simp [findV] at h
  | n :: ns, v :: vs, x, y, h => by
    unfold findV at h
    split at h
    · injection h with h; exact h ▸ List.mem_cons_self
    · exact List.mem_cons_of_mem _ (findV_mem ns vs x y h)
theorem appV_bd {ns vs : List Int} {x : Int} (h : -9223372036854775808 ≤ x ∧ x ≤ 9223372036854775807) : -9223372036854775808 ≤ appV ns vs x ∧ appV ns vs x ≤ 9223372036854775807 := by
  unfold appV
  split
  · rename_i h1
    cases h2 : findV ns vs x with
    | none => exact h
    | some y =>
      have := (okSub_spec h1).2.2.1 y (findV_mem _ _ _ _ h2)
      simp only [Option.getD_some]; omega
  · exact h
theorem appV_ok {ns vs : List Int} {x : Int} (h : okVal x = true) : okVal (appV ns vs x) = true := by
  unfold appV
  split
  · rename_i h1
    cases h2 : findV ns vs x with
    | none => exact h
    | some y =>
      have := (okSub_spec h1).2.2.1 y (findV_mem _ _ _ _ h2)
      simp only [Option.getD_some, okVal, decide_eq_true_eq]; exact this
  · exact h
/-- The program looks the null's number up. -/
theorem idx_findV : ∀ (ns vs : List Int) (x : Int) (i : Nat), ns.length = vs.length → (∀ k ∈ ns, 0 ≤ k ∧ k ≤ 39) → isNul x = true →
    (idxFrom (fun n => n == nulNum x) ns i = -1 ∧ findV ns vs x = none) ∨ ∃ k, ∃ h : k < vs.length, idxFrom (fun n => n == nulNum x) ns i = ((i + k : Nat) : Int) ∧ findV ns vs x = some vs[k]
  | [], [], _, _, _, _, _ => .inl ⟨rfl, rfl⟩
  | [], _ :: _, _, _, h, _, _ => by simp at h
  | _ :: _, [], _, _, h, _, _ => by simp at h
  | n :: ns, v :: vs, x, i, hl, hb, hx => by
    have hn := hb n List.mem_cons_self
    have e : (n == nulNum x) = decide (-1 - n = x) := by
      have hx' := hx
      simp only [isNul, decide_eq_true_eq] at hx'
      unfold nulNum; rw [if_pos hx]
      by_cases c : n = -1 - x
      · have : -1 - n = x := by omega
        simp [c]; omega
      · have : ¬ -1 - n = x := by omega
        simp [this, c]
    unfold idxFrom findV
    by_cases c : -1 - n = x
    · rw [if_pos c]
      refine .inr ⟨0, by simp, ?_, by simp⟩
      rw [if_pos (by rw [e]; exact decide_eq_true c)]; simp
    · rw [if_neg c, if_neg (by rw [e]; simpa using c)]
      rcases idx_findV ns vs x (i + 1) (by simpa using hl) (fun k hk => hb k (List.mem_cons_of_mem _ hk)) hx with h | ⟨k, hk, h1, h2⟩
      · exact .inl h
      · refine .inr ⟨k + 1, by simp; omega, ?_, by simpa using h2⟩
        rw [h1]; congr 1; omega
theorem findV_not {ns vs : List Int} {x : Int} (hb : ∀ k ∈ ns, 0 ≤ k ∧ k ≤ 39) (hx : isNul x = false) : findV ns vs x = none := by
  induction ns generalizing vs with
  | nil => rfl
  | cons n ns ih =>
    cases vs with
    | nil => rfl
    | cons v vs =>
      have hn := hb n List.mem_cons_self
      have : ¬ -1 - n = x := by
        intro c
        simp only [isNul, decide_eq_false_iff_not] at hx
        omega
      unfold findV
      rw [if_neg this]
      exact ih fun k hk => hb k (List.mem_cons_of_mem _ hk)
def appF (ns vs : List Int) (f : Fct) : Fct := (f.1, f.2.map (appV ns vs))
theorem ints_zero (a b : List Int) : (ints a b == 0) = decide (a = b) := by
  by_cases h : a = b
  · subst h; simp [(ints_eq a a).2 rfl]
  · have : ¬ ints a b = 0 := fun e => h ((ints_eq a b).1 e)
    simp [h, this]
/-- A homomorphism of instances. -/
def isHom (r1 : List Rel) (f1 : List Fct) (r2 : List Rel) (f2 : List Fct) (ns vs : List Int) : Bool :=
  okInst r1 f1 && (okInst r2 f2 && (okSub ns vs && (decide (r1 = r2) && (decide (ns = nulsI f1) && f1.all fun f => hasF f2 (appF ns vs f)))))
end Go.Proofs.Ytngjhblbpapjeaa.H
