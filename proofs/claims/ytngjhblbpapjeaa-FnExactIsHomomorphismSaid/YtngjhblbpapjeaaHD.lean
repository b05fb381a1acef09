/- What the functions compute, in plain Lean: relations, values, facts, instances. No program in sight. No condition. -/
import Derived.Test.YtngjhblbpapjeaaHW
namespace Go.Proofs.Ytngjhblbpapjeaa.H
open Go Go.RowKit Go.Proofs.YtngjhblbpapjeaaW.PrintWords Go.Proofs.YtngjhblbpapjeaaW.PrintLast
/-- low ≤ n ≤ high. -/
def within (n a b : Int) : Bool := decide (a ≤ n ∧ n ≤ b)
/-- The number of a null: of -1 .. -40. -/
def isNul (v : Int) : Bool := decide (-40 ≤ v ∧ v ≤ -1)
def nulNum (v : Int) : Int := if isNul v then -1 - v else 0
def okVal (v : Int) : Bool := decide (-40 ≤ v ∧ v ≤ 9)
/-- One relation; strings in order. -/
def okRel (r : Rel) : Bool := decide (r.1.size = 1 ∧ 97 ≤ bt r.1 0 ∧ bt r.1 0 ≤ 122 ∧ 1 ≤ r.2.1 ∧ r.2.1 ≤ 3)
def strLt (a b : ByteArray) : Bool := Op.bytesLess a.toList b.toList
theorem bl_asymm : ∀ a b : List UInt8, Op.bytesLess a b = true → Op.bytesLess b a = false
  | _, [], h => by simp [Op.bytesLess] at h
  | [], _ :: _, _ => by simp [Op.bytesLess]
  | x :: a, y :: b, h => by
    simp only [Op.bytesLess, Bool.or_eq_true, Bool.and_eq_true, decide_eq_true_eq, beq_iff_eq] at h
    simp only [Op.bytesLess, Bool.or_eq_false_iff, Bool.and_eq_false_iff, decide_eq_false_iff_not, beq_eq_false_iff_ne]
    rcases h with h | ⟨h, h2⟩
    · exact ⟨fun h' => by rw [UInt8.lt_iff_toNat_lt] at h h'; omega, .inl (fun e => by rw [e] at h; rw [UInt8.lt_iff_toNat_lt] at h; omega)⟩
    · subst h; exact ⟨fun h' => by rw [UInt8.lt_iff_toNat_lt] at h'; omega, .inr (bl_asymm a b h2)⟩
theorem bl_irrefl (a : List UInt8) : Op.bytesLess a a = false := by
  cases h : Op.bytesLess a a with
  | false => rfl
  | true => rw [bl_asymm a a h] at h; cases h
theorem bl_ne {a b : List UInt8} (h : Op.bytesLess a b = true) : (b == a) = false := by
  rw [beq_eq_false_iff_ne]; rintro rfl; rw [bl_irrefl] at h; cases h
theorem bl_ne' {a b : List UInt8} (h : Op.bytesLess a b = true) : (a == b) = false := by
  rw [beq_eq_false_iff_ne]; rintro rfl; rw [bl_irrefl] at h; cases h
theorem bl_total : ∀ a b : List UInt8, Op.bytesLess a b = false → (Op.bytesLess b a || b == a) = true
  | [], [], _ => by simp
  | [], _ :: _, h => by simp [Op.bytesLess] at h
  | _ :: _, [], _ => by simp [Op.bytesLess]
  | x :: a, y :: b, h => by
    simp only [Op.bytesLess, Bool.or_eq_false_iff, Bool.and_eq_false_iff, decide_eq_false_iff_not, beq_eq_false_iff_ne] at h
    obtain ⟨h1, h2⟩ := h
    simp only [Op.bytesLess, Bool.or_eq_true, Bool.and_eq_true, decide_eq_true_eq, beq_iff_eq]
    by_cases e : x = y
    · subst e
      have h3 : Op.bytesLess a b = false := by rcases h2 with h2 | h2; exact absurd rfl h2; exact h2
      have := bl_total a b h3
      simp only [Bool.or_eq_true, beq_iff_eq] at this
      rcases this with t | t
      · exact .inl (.inr ⟨rfl, t⟩)
      · exact .inr (by rw [t])
    · refine .inl (.inl ?_)
      rw [UInt8.lt_iff_toNat_lt] at h1 ⊢
      have : x.toNat ≠ y.toNat := fun h => e (UInt8.toNat_inj.1 h)
      omega
def relsFrom : Option ByteArray → List Rel → Bool
  | _, [] => true
  | p, r :: l => okRel r && (match p with | none => true | some s => strLt s r.1) && relsFrom (some r.1) l
def okRels (l : List Rel) : Bool := relsFrom none l && decide (l.length ≤ 6)
/-- The name ahead of place k. -/
def prevName (l : List Rel) (k : Nat) : Option ByteArray := if k = 0 then none else (l[k - 1]?).map fun r => r.1
theorem prevName_succ (l : List Rel) (k : Nat) (h : k < l.length) : prevName l (k + 1) = some l[k].1 := by
  simp [prevName, h]
theorem relsFrom_step (l : List Rel) (k : Nat) (h : k < l.length) : relsFrom (prevName l k) (l.drop k) = (okRel l[k] && (match prevName l k with | none => true | some s => strLt s l[k].1) && relsFrom (prevName l (k + 1)) (l.drop (k + 1))) := by
  rw [List.drop_eq_getElem_cons h, prevName_succ l k h]
  rfl
/-- Facts. -/
def ints : List Int → List Int → Int
  | [], [] => 0
  | [], _ :: _ => -1
  | _ :: _, [] => 1
  | x :: a, y :: b => if x < y then -1 else if y < x then 1 else ints a b
def cmpF (f g : Fct) : Int := if f.1 < g.1 then -1 else if g.1 < f.1 then 1 else ints f.2 g.2
def arity (rs : List Rel) (i : Int) : Int := ((rs[i.toNat]?).map fun r => r.2.1).getD 0
def okFact (rs : List Rel) (f : Fct) : Bool := okRels rs && decide (0 ≤ f.1 ∧ f.1 < rs.length) && decide ((f.2.length : Int) = arity rs f.1) && f.2.all okVal
def placeFrom (f : Fct) : List Fct → Nat → Int
  | [], _ => -1
  | g :: l, i => if cmpF g f = 0 then i else placeFrom f l (i + 1)
def place (l : List Fct) (f : Fct) : Int := placeFrom f l 0
/-- A null's number laid into a row that is in order. -/
def put (l : List Int) (x : Int) : List Int := match l with
  | [] => [x]
  | y :: r => if y < x then y :: put r x else if y = x then y :: r else x :: y :: r
theorem put_length (l : List Int) (x : Int) : (put l x).length ≤ l.length + 1 := by
  induction l with
  | nil => simp [put]
  | cons y r ih => unfold put; split <;> (try split) <;> simp <;> omega
def nulsFrom : List Int → List Int → List Int
  | out, [] => out
  | out, v :: l => nulsFrom (if isNul v then put out (nulNum v) else out) l
def nuls (vs : List Int) : List Int := nulsFrom [] vs
theorem nulsFrom_step (out vs : List Int) (k : Nat) (h : k < vs.length) : nulsFrom out (vs.drop k) = nulsFrom (if isNul vs[k] then put out (nulNum vs[k]) else out) (vs.drop (k + 1)) := by
  rw [List.drop_eq_getElem_cons h]; rfl
theorem put_split (l : List Int) (x : Int) (k : Nat) (hk : k ≤ l.length) (hlt : ∀ j, (h : j < k) → l[j]'(by omega) < x) : put l x = l.take k ++ put (l.drop k) x := by
  induction k generalizing l with
  | zero => simp
  | succ k ih =>
    cases l with
    | nil => simp at hk
    | cons y r =>
      have h0 := hlt 0 (by omega)
      simp only [List.getElem_cons_zero] at h0
      have := ih r (by simpa using hk) (fun j h => by have := hlt (j + 1) (by omega); simpa using this)
      rw [put, if_pos h0, this]
      simp
theorem put_mid (l : List Int) (x : Int) (k : Nat) (hk : k < l.length) (hlt : ∀ j, (h : j < k) → l[j]'(by omega) < x) (h1 : ¬ l[k] < x) : put l x = if l[k] = x then l else l.take k ++ x :: l.drop k := by
  rw [put_split l x k (by omega) hlt, List.drop_eq_getElem_cons hk, put, if_neg h1]
  split
  · rw [← List.drop_eq_getElem_cons hk, List.take_append_drop]
  · rfl
theorem put_end (l : List Int) (x : Int) (hlt : ∀ j, (h : j < l.length) → l[j] < x) : put l x = l ++ [x] := by
  rw [put_split l x l.length (by omega) hlt]; simp [put]
theorem put_mem {l : List Int} {x y : Int} (h : y ∈ put l x) : y ∈ l ∨ y = x := by
  induction l with
  | nil => simp [put] at h; exact .inr h
  | cons z r ih =>
    unfold put at h
    split at h
    · rcases List.mem_cons.1 h with h | h
      · exact .inl (h ▸ List.mem_cons_self)
      · exact (ih h).imp (fun h => List.mem_cons_of_mem _ h) id
    · split at h
      · exact .inl h
      · rcases List.mem_cons.1 h with h | h
        · exact .inr h
        · exact .inl h
theorem put_inR {l : List Int} {x : Int} (h : InR l) (h1 : -9223372036854775808 ≤ x) (h2 : x ≤ 9223372036854775807) : InR (put l x) := fun y hy => by
  rcases put_mem hy with hy | rfl
  · exact h y hy
  · exact ⟨h1, h2⟩
theorem nulNum_bd (v : Int) : 0 ≤ nulNum v ∧ nulNum v ≤ 39 := by unfold nulNum isNul; split <;> simp_all <;> omega
/-- Instances. -/
def srcOf (rs : List Rel) (i : Int) : Bool := ((rs[i.toNat]?).map fun r => r.2.2).getD false
def okPrev (p : Option Fct) (f : Fct) : Bool := match p with | none => true | some g => decide (cmpF g f < 0)
def okNext (rs : List Rel) (p : Option Fct) (f : Fct) : Bool := okFact rs f && okPrev p f && (!srcOf rs f.1 || decide ((nuls f.2).length = 0))
def factsFrom (rs : List Rel) : Option Fct → List Fct → Bool
  | _, [] => true
  | p, f :: l => okNext rs p f && factsFrom rs (some f) l
def prevFct (l : List Fct) (k : Nat) : Option Fct := if k = 0 then none else l[k - 1]?
theorem factsFrom_step (rs : List Rel) (l : List Fct) (k : Nat) (h : k < l.length) : factsFrom rs (prevFct l k) (l.drop k) = (okNext rs (prevFct l k) l[k] && factsFrom rs (prevFct l (k + 1)) (l.drop (k + 1))) := by
  rw [List.drop_eq_getElem_cons h, show prevFct l (k + 1) = some l[k] by simp [prevFct, h]]
  rfl
def okInst (rs : List Rel) (fs : List Fct) : Bool := factsFrom rs none fs && (okRels rs && decide (fs.length ≤ 30))
theorem relsFrom_mem {p : Option ByteArray} {l : List Rel} (h : relsFrom p l = true) : ∀ r ∈ l, okRel r = true := by
  induction l generalizing p with
  | nil => intro r hr; cases hr
  | cons x l ih =>
    simp only [relsFrom, Bool.and_eq_true] at h
    intro r hr
    rcases List.mem_cons.1 hr with rfl | hr
    · exact h.1.1
    · exact ih h.2 r hr
theorem okRels_mem {l : List Rel} (h : okRels l = true) : ∀ r ∈ l, okRel r = true := relsFrom_mem (Bool.and_eq_true_iff.1 h).1
theorem okFact_rels {rs : List Rel} {f : Fct} (h : okFact rs f = true) : okRels rs = true := by
  simp only [okFact, Bool.and_eq_true] at h; exact h.1.1.1
theorem okFact_at {rs : List Rel} {f : Fct} (h : okFact rs f = true) : 0 ≤ f.1 ∧ f.1 < rs.length := by
  simp only [okFact, Bool.and_eq_true, decide_eq_true_eq] at h; exact h.1.1.2
theorem okFact_len {rs : List Rel} {f : Fct} (h : okFact rs f = true) : f.2.length ≤ 3 := by
  have h0 := okFact_at h
  have hr := okFact_rels h
  simp only [okFact, Bool.and_eq_true, decide_eq_true_eq] at h
  have hl := h.1.2
  have hlt : f.1.toNat < rs.length := by omega
  have hm := okRels_mem hr rs[f.1.toNat] (List.getElem_mem hlt)
  simp only [okRel, decide_eq_true_eq] at hm
  have : arity rs f.1 = rs[f.1.toNat].2.1 := by simp [arity, hlt]
  omega
/-- The first place at which p holds. -/
def idxFrom {α : Type} (p : α → Bool) : List α → Nat → Int
  | [], _ => -1
  | x :: l, i => if p x then i else idxFrom p l (i + 1)
theorem idxFrom_step {α : Type} (p : α → Bool) (l : List α) (k : Nat) (h : k < l.length) : idxFrom p (l.drop k) k = if p l[k] then (k : Int) else idxFrom p (l.drop (k + 1)) (k + 1) := by
  rw [List.drop_eq_getElem_cons h]; rfl
theorem idxFrom_any {α : Type} (p : α → Bool) (l : List α) (i : Nat) : decide (0 ≤ idxFrom p l i) = l.any p := by
  induction l generalizing i with
  | nil => rfl
  | cons x l ih =>
    by_cases h : p x = true
    · simp [idxFrom, h]
    · have h' : p x = false := by simpa using h
      have := ih (i + 1)
      simp only [idxFrom, h', List.any_cons, Bool.false_or]
      exact this
def cmpI (a b : Int) : Int := if a < b then -1 else if b < a then 1 else 0
theorem cmpF_or (f g : Fct) : cmpF f g = if cmpI f.1 g.1 ≠ 0 then cmpI f.1 g.1 else ints f.2 g.2 := by
  unfold cmpF cmpI
  split <;> rename_i h1
  · simp
  · split <;> simp
end Go.Proofs.Ytngjhblbpapjeaa.H
