/- Facts in order: compared, found, laid in, taken out. Plain. No condition. -/
import Derived.Test.YtngjhblbpapjeaaHD
namespace Go.Proofs.Ytngjhblbpapjeaa.H
open Go Go.RowKit Go.Proofs.YtngjhblbpapjeaaW.PrintWords Go.Proofs.YtngjhblbpapjeaaW.PrintLast
set_option linter.unusedVariables false
set_option linter.unusedSimpArgs false

theorem ints_eq : ∀ a b : List Int, ints a b = 0 ↔ a = b
  | [], [] => by simp [ints]
  | [], _ :: _ => by simp [ints]
  | _ :: _, [] => by simp [ints]
  | x :: a, y :: b => by
    have ih := ints_eq a b
    unfold ints
    by_cases h1 : x < y
    · rw [if_pos h1]; constructor
      · intro h; omega
      · intro h; injection h with h _; omega
    · rw [if_neg h1]
      by_cases h2 : y < x
      · rw [if_pos h2]; constructor
        · intro h; omega
        · intro h; injection h with h _; omega
      · rw [if_neg h2, ih, List.cons.injEq]
        constructor
        · intro h; exact ⟨by omega, h⟩
        · intro h; exact h.2
theorem ints_neg : ∀ a b : List Int, ints b a = - ints a b
  | [], [] => rfl
  | [], _ :: _ => rfl
  | _ :: _, [] => rfl
  | x :: a, y :: b => by
    have ih := ints_neg a b
    unfold ints
    by_cases h1 : x < y
    · have h2 : ¬ y < x := by omega
      simp [h1, h2]
    · by_cases h2 : y < x
      · simp [h1, h2]
      · simp [h1, h2, ih]
theorem ints_trans : ∀ a b c : List Int, ints a b < 0 → ints b c < 0 → ints a c < 0
  | [], [], _, h, _ => by simp [ints] at h
  | [], _ :: _, [], _, h => by simp [ints] at h
  | [], _ :: _, _ :: _, _, _ => by simp [ints]
  | _ :: _, [], _, h, _ => by simp [ints] at h
  | _ :: _, _ :: _, [], _, h => by simp [ints] at h
  | x :: a, y :: b, z :: c, h1, h2 => by
    have ih := ints_trans a b c
    unfold ints at h1 h2 ⊢
    by_cases e1 : x < y
    · by_cases e2 : y < z
      · rw [if_pos (by omega)]; omega
      · rw [if_neg e2] at h2
        by_cases e3 : z < y
        · rw [if_pos e3] at h2; omega
        · rw [if_pos (by omega)]; omega
    · rw [if_neg e1] at h1
      by_cases e1' : y < x
      · rw [if_pos e1'] at h1; omega
      · rw [if_neg e1'] at h1
        by_cases e2 : y < z
        · rw [if_pos (by omega)]; omega
        · rw [if_neg e2] at h2
          by_cases e3 : z < y
          · rw [if_pos e3] at h2; omega
          · rw [if_neg e3] at h2
            rw [if_neg (by omega), if_neg (by omega)]
            exact ih h1 h2
theorem cmpF_eq (f g : Fct) : cmpF f g = 0 ↔ f = g := by
  rcases f with ⟨a, x⟩; rcases g with ⟨b, y⟩
  simp only [cmpF, Prod.mk.injEq]
  by_cases h1 : a < b
  · rw [if_pos h1]; constructor
    · intro h; omega
    · intro h; omega
  · rw [if_neg h1]
    by_cases h2 : b < a
    · rw [if_pos h2]; constructor
      · intro h; omega
      · intro h; omega
    · rw [if_neg h2, ints_eq]
      constructor
      · intro h; exact ⟨by omega, h⟩
      · intro h; exact h.2
theorem cmpF_self (f : Fct) : cmpF f f = 0 := (cmpF_eq f f).2 rfl
theorem cmpF_neg (f g : Fct) : cmpF g f = - cmpF f g := by
  unfold cmpF
  by_cases h1 : f.1 < g.1
  · have h2 : ¬ g.1 < f.1 := by omega
    simp [h1, h2]
  · by_cases h2 : g.1 < f.1
    · simp [h1, h2]
    · simp [h1, h2, ints_neg f.2 g.2]
theorem cmpF_trans (f g h : Fct) (h1 : cmpF f g < 0) (h2 : cmpF g h < 0) : cmpF f h < 0 := by
  unfold cmpF at *
  by_cases e1 : f.1 < g.1
  · by_cases e2 : g.1 < h.1
    · rw [if_pos (by omega)]; omega
    · rw [if_neg e2] at h2
      by_cases e3 : h.1 < g.1
      · rw [if_pos e3] at h2; omega
      · rw [if_pos (by omega)]; omega
  · rw [if_neg e1] at h1
    by_cases e1' : g.1 < f.1
    · rw [if_pos e1'] at h1; omega
    · rw [if_neg e1'] at h1
      by_cases e2 : g.1 < h.1
      · rw [if_pos (by omega)]; omega
      · rw [if_neg e2] at h2
        by_cases e3 : h.1 < g.1
        · rw [if_pos e3] at h2; omega
        · rw [if_neg e3] at h2
          rw [if_neg (by omega), if_neg (by omega)]
          exact ints_trans _ _ _ h1 h2
/-- Ascending, each once. -/
abbrev Asc (l : List Fct) : Prop := l.Pairwise fun f g => cmpF f g < 0
theorem asc_ext : ∀ a b : List Fct, Asc a → Asc b → (∀ x, x ∈ a ↔ x ∈ b) → a = b
  | [], [], _, _, _ => rfl
  | [], y :: b, _, _, h => absurd ((h y).2 (by simp)) (by simp)
  | x :: a, [], _, _, h => absurd ((h x).1 (by simp)) (by simp)
  | x :: a, y :: b, ha, hb, h => by
    rw [Asc, List.pairwise_cons] at ha hb
    have e : x = y := by
      rcases List.mem_cons.1 ((h x).1 (by simp)) with e | hx
      · exact e
      · rcases List.mem_cons.1 ((h y).2 (by simp)) with e | hy
        · exact e.symm
        · have h1 := hb.1 x hx
          have h2 := ha.1 y hy
          rw [cmpF_neg] at h1; omega
    subst e
    rw [asc_ext a b ha.2 hb.2 (fun z => ?_)]
    constructor
    · intro hz
      rcases List.mem_cons.1 ((h z).1 (List.mem_cons_of_mem _ hz)) with e | hz'
      · have := ha.1 z hz; rw [e, cmpF_self] at this; omega
      · exact hz'
    · intro hz
      rcases List.mem_cons.1 ((h z).2 (List.mem_cons_of_mem _ hz)) with e | hz'
      · have := hb.1 z hz; rw [e, cmpF_self] at this; omega
      · exact hz'
theorem placeFrom_lt (f : Fct) : ∀ (l : List Fct) (i : Nat), (placeFrom f l i = -1 ∧ f ∉ l) ∨ ∃ k, ∃ h : k < l.length, placeFrom f l i = ((i + k : Nat) : Int) ∧ l[k] = f ∧ ∀ j, (hj : j < k) → l[j]'(by omega) ≠ f
  | [], _ => .inl ⟨rfl, by simp⟩
  | g :: l, i => by
    unfold placeFrom
    by_cases h : cmpF g f = 0
    · rw [if_pos h]
      exact .inr ⟨0, by simp, by simp, by simpa using (cmpF_eq g f).1 h, fun j hj => by omega⟩
    · rw [if_neg h]
      have hgf : g ≠ f := fun e => h ((cmpF_eq g f).2 e)
      rcases placeFrom_lt f l (i + 1) with ⟨e, hn⟩ | ⟨k, hk, e, ha, hb⟩
      · exact .inl ⟨e, by simp only [List.mem_cons, not_or]; exact ⟨fun e => hgf e.symm, hn⟩⟩
      · refine .inr ⟨k + 1, by simp; omega, by rw [e]; congr 1; omega, by simpa using ha, fun j hj => ?_⟩
        cases j with
        | zero => simpa using hgf
        | succ j => simpa using hb j (by omega)
theorem place_spec (l : List Fct) (f : Fct) : (place l f = -1 ∧ f ∉ l) ∨ ∃ k, ∃ h : k < l.length, place l f = (k : Int) ∧ l[k] = f ∧ ∀ j, (hj : j < k) → l[j]'(by omega) ≠ f := by
  have := placeFrom_lt f l 0
  simpa [place] using this
def hasF (fs : List Fct) (g : Fct) : Bool := fs.any fun f => cmpF f g == 0
theorem hasF_mem (fs : List Fct) (g : Fct) : hasF fs g = true ↔ g ∈ fs := by
  unfold hasF
  rw [List.any_eq_true]
  constructor
  · rintro ⟨f, hf, h⟩
    rw [beq_iff_eq, cmpF_eq] at h
    exact h ▸ hf
  · intro h; exact ⟨g, h, by rw [cmpF_self]; rfl⟩
theorem hasF_place (fs : List Fct) (g : Fct) : hasF fs g = decide (0 ≤ place fs g) := by
  rcases place_spec fs g with ⟨e, h⟩ | ⟨k, hk, e, h, _⟩
  · rw [e]
    have : hasF fs g = false := by
      cases h2 : hasF fs g with
      | false => rfl
      | true => exact absurd ((hasF_mem fs g).1 h2) h
    rw [this]; rfl
  · rw [e, (hasF_mem fs g).2 (h ▸ List.getElem_mem hk)]
    symm; exact decide_eq_true (by omega)
/-- All but g. -/
def delF (fs : List Fct) (g : Fct) : List Fct := fs.filter fun f => !(cmpF f g == 0)
theorem delF_at (fs : List Fct) (g : Fct) (h : Asc fs) (k : Nat) (hk : k < fs.length) (hg : fs[k] = g) : delF fs g = fs.take k ++ fs.drop (k + 1) := by
  have e := List.take_append_drop k fs
  rw [List.drop_eq_getElem_cons hk, hg] at e
  have h' := h
  rw [← e] at h'
  rw [Asc, List.pairwise_append, List.pairwise_cons] at h'
  obtain ⟨_, ⟨h2, _⟩, h3⟩ := h'
  have e1 : (fs.take k).filter (fun f => !(cmpF f g == 0)) = fs.take k := List.filter_eq_self.2 fun f hf => by
    have := h3 f hf g (by simp)
    simp; omega
  have e2 : (fs.drop (k + 1)).filter (fun f => !(cmpF f g == 0)) = fs.drop (k + 1) := List.filter_eq_self.2 fun f hf => by
    have := h2 f hf
    rw [cmpF_neg] at this
    simp; omega
  unfold delF
  conv => lhs; rw [← e]
  rw [List.filter_append, List.filter_cons_of_neg (by simp [cmpF_self]), e1, e2]
/-- A fact laid into a row that is in order. -/
def putF (l : List Fct) (x : Fct) : List Fct := match l with
  | [] => [x]
  | y :: r => if cmpF y x < 0 then y :: putF r x else if cmpF y x = 0 then y :: r else x :: y :: r
theorem mem_putF (x z : Fct) : ∀ l : List Fct, z ∈ putF l x ↔ z = x ∨ z ∈ l
  | [] => by simp [putF]
  | y :: l => by
    unfold putF
    by_cases c : cmpF y x < 0
    · rw [if_pos c, List.mem_cons, List.mem_cons, mem_putF x z l]
      constructor <;> rintro (h | h | h) <;> simp [h]
    · rw [if_neg c]
      by_cases c2 : cmpF y x = 0
      · rw [if_pos c2]; rw [cmpF_eq] at c2; subst c2; simp
      · rw [if_neg c2]; simp
theorem putF_asc (x : Fct) : ∀ l : List Fct, Asc l → Asc (putF l x)
  | [], _ => by simp [putF, Asc]
  | y :: l, h => by
    rw [Asc, List.pairwise_cons] at h
    unfold putF
    by_cases c : cmpF y x < 0
    · rw [if_pos c, Asc, List.pairwise_cons]
      refine ⟨fun z hz => ?_, putF_asc x l h.2⟩
      rcases (mem_putF x z l).1 hz with rfl | hz
      · exact c
      · exact h.1 z hz
    · rw [if_neg c]
      by_cases c2 : cmpF y x = 0
      · rw [if_pos c2, Asc, List.pairwise_cons]; exact h
      · rw [if_neg c2, Asc, List.pairwise_cons, List.pairwise_cons]
        have hxy : cmpF x y < 0 := by rw [cmpF_neg]; omega
        refine ⟨fun z hz => ?_, h⟩
        rcases List.mem_cons.1 hz with rfl | hz
        · exact hxy
        · exact cmpF_trans _ _ _ hxy (h.1 z hz)
/-- Facts in ascending order, each once. -/
def setF (l : List Fct) : List Fct := l.foldl putF []
theorem foldl_putF (l out : List Fct) (h : Asc out) : Asc (l.foldl putF out) ∧ ∀ x, x ∈ l.foldl putF out ↔ x ∈ out ∨ x ∈ l := by
  induction l generalizing out with
  | nil => exact ⟨h, fun x => by simp⟩
  | cons y l ih =>
    obtain ⟨h1, h2⟩ := ih _ (putF_asc y out h)
    refine ⟨h1, fun x => ?_⟩
    rw [List.foldl_cons, h2, mem_putF, List.mem_cons]
    constructor
    · rintro ((h | h) | h)
      · exact .inr (.inl h)
      · exact .inl h
      · exact .inr (.inr h)
    · rintro (h | h | h)
      · exact .inl (.inr h)
      · exact .inl (.inl h)
      · exact .inr h
theorem setF_spec (l : List Fct) : Asc (setF l) ∧ ∀ x, x ∈ setF l ↔ x ∈ l := by
  have := foldl_putF l [] List.Pairwise.nil
  exact ⟨this.1, fun x => by rw [setF, this.2]; simp⟩
theorem setF_asc (l : List Fct) (h : Asc l) : setF l = l := asc_ext _ _ (setF_spec l).1 h (setF_spec l).2
theorem setF_put (fs : List Fct) (f : Fct) (h : Asc fs) : setF (fs ++ [f]) = putF fs f := by
  unfold setF
  rw [List.foldl_append]
  have := setF_asc fs h
  unfold setF at this
  rw [this]; rfl
theorem putF_has (fs : List Fct) (f : Fct) (h : Asc fs) (hm : f ∈ fs) : putF fs f = fs :=
  asc_ext _ _ (putF_asc f fs h) h fun x => by
    rw [mem_putF]
    constructor
    · rintro (rfl | h)
      · exact hm
      · exact h
    · exact .inr
theorem putF_split (l : List Fct) (x : Fct) (k : Nat) (hk : k ≤ l.length) (hlt : ∀ j, (h : j < k) → cmpF (l[j]'(by omega)) x < 0) : putF l x = l.take k ++ putF (l.drop k) x := by
  induction k generalizing l with
  | zero => simp
  | succ k ih =>
    cases l with
    | nil => simp at hk
    | cons y r =>
      have h0 := hlt 0 (by omega)
      simp only [List.getElem_cons_zero] at h0
      have := ih r (by simpa using hk) (fun j h => by have := hlt (j + 1) (by omega); simpa using this)
      rw [putF, if_pos h0, this]
      simp
theorem putF_at (l : List Fct) (x : Fct) (k : Nat) (hk : k ≤ l.length) (hlt : ∀ j, (h : j < k) → cmpF (l[j]'(by omega)) x < 0) (h1 : ∀ h : k < l.length, ¬ cmpF l[k] x < 0) (hn : x ∉ l) : putF l x = l.take k ++ x :: l.drop k := by
  rw [putF_split l x k hk hlt]
  rcases Nat.lt_or_ge k l.length with hk' | hk'
  · rw [List.drop_eq_getElem_cons hk', putF, if_neg (h1 hk'), if_neg (fun e => hn (by have := (cmpF_eq _ _).1 e; rw [← this]; exact List.getElem_mem hk'))]
  · rw [List.drop_of_length_le hk']; rfl
theorem delF_put (fs : List Fct) (f : Fct) (h : Asc fs) (hn : f ∉ fs) : delF (putF fs f) f = fs := by
  refine asc_ext _ _ ((putF_asc f fs h).sublist List.filter_sublist) h fun x => ?_
  unfold delF
  rw [List.mem_filter, mem_putF]
  simp only [Bool.not_eq_true', beq_eq_false_iff_ne, ne_eq, cmpF_eq]
  constructor
  · rintro ⟨rfl | h, h2⟩
    · exact absurd rfl h2
    · exact h
  · intro hx; exact ⟨.inr hx, fun e => hn (e ▸ hx)⟩
theorem put_delF (fs : List Fct) (f : Fct) (h : Asc fs) (hm : f ∈ fs) : putF (delF fs f) f = fs := by
  refine asc_ext _ _ (putF_asc f _ (h.sublist List.filter_sublist)) h fun x => ?_
  unfold delF
  rw [mem_putF, List.mem_filter]
  simp only [Bool.not_eq_true', beq_eq_false_iff_ne, ne_eq, cmpF_eq]
  constructor
  · rintro (rfl | h)
    · exact hm
    · exact h.1
  · intro hx
    by_cases e : x = f
    · exact .inl e
    · exact .inr ⟨hx, e⟩
end Go.Proofs.Ytngjhblbpapjeaa.H
