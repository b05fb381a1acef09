/- Walks and plain laws for the law FnRelationAndFactFormat, part 4 of 4: the texts HC6, HD5, HJ3, HJ0, HJ1, HJ2, HJ5, HJ6, HJ7, HG14, HG15, HF12, HF11, HF10, HF13, HQFnExactParseFact, HQFnRelationAndFactFormat in one. No condition. -/
import Derived.Lib.QuietBelow
import Derived.Sort.Grow
import Derived.Shelf.SlSortCmp.WholeK
import Derived.Lib.RowBridge
import Derived.Shelf.SlSortCmp.NoneTotal
import Derived.Deep.CutRange
import Derived.Test.YtgemaohdlibboaaGreatDoorZFnRelationAndFactFormat3
/- Walks: the program takes facts out of an instance. No condition. -/
namespace Go.Proofs.YtgemaohdlibboaaGreatDoor.H
open Go Go.RowKit Go.Proofs.YtgemaohdlibboaaGreatDoorW.PrintWords Go.Proofs.YtgemaohdlibboaaGreatDoorW.PrintLast
open Go.Proofs.YtgemaohdlibboaaGreatDoor.Reg (On on_draw)
set_option maxHeartbeats 4000000
set_option maxRecDepth 100000
set_option linter.unusedVariables false
set_option linter.unusedSimpArgs false

/-- The headers that are kept of the first j. -/
def kept (p : Fct → Bool) (hs : List Hdr) (fs : List Fct) (j : Nat) : List Hdr := (((hs.zip fs).take j).filter fun q => !p q.2).map Prod.fst
theorem kept_succ (p : Fct → Bool) (hs : List Hdr) (fs : List Fct) (j : Nat) (hl : hs.length = fs.length) (h : j < fs.length) : kept p hs fs (j + 1) = kept p hs fs j ++ (if p fs[j] then [] else [hs[j]'(by omega)]) := by
  unfold kept
  rw [List.take_succ_eq_append_getElem (by rw [List.length_zip]; omega), List.filter_append, List.map_append, List.getElem_zip, List.filter_cons]
  cases p fs[j] <;> simp
theorem kept_front (p : Fct → Bool) (hs : List Hdr) (fs : List Fct) (hl : hs.length = fs.length) : ∀ j, j ≤ fs.length → (∀ i, (h : i < j) → (hi : i < fs.length) → p fs[i] = false) → kept p hs fs j = hs.take j
  | 0, _, _ => by simp [kept]
  | j + 1, hj, h => by
    rw [kept_succ p hs fs j hl (by omega), kept_front p hs fs hl j (by omega) (fun i hi hf => h i (by omega) hf), h j (by omega) (by omega), List.take_succ_eq_append_getElem (by omega)]
    rfl
/-- How the row stands when j facts are looked at, of which i are kept. -/
structure KI (p : Fct → Bool) (hs : List Hdr) (fs : List Fct) (j i : Nat) (L : List Hdr) : Prop where
  len : L.length = fs.length
  lt : i < j
  is : i = (kept p hs fs j).length
  row : ∃ M, L = kept p hs fs j ++ M ++ hs.drop j
theorem KI.start (p : Fct → Bool) (hs : List Hdr) (fs : List Fct) (hl : hs.length = fs.length) (k : Nat) (hk : k < fs.length) (ht : p fs[k] = true) (hall : ∀ j, (hj : j < k) → p (fs[j]'(by omega)) = false) : KI p hs fs (k + 1) k hs := by
  have e : kept p hs fs (k + 1) = hs.take k := by
    rw [kept_succ p hs fs k hl hk, ht, if_pos rfl, List.append_nil, kept_front p hs fs hl k (by omega) (fun i hi _ => hall i hi)]
  refine ⟨hl, Nat.lt_succ_self _, by rw [e, List.length_take]; omega, ⟨[hs[k]], ?_⟩⟩
  rw [e, ← List.take_succ_eq_append_getElem (by omega), List.take_append_drop]
theorem KI.mid {p : Fct → Bool} {hs : List Hdr} {fs : List Fct} {j i : Nat} {L : List Hdr} (h : KI p hs fs j i L) (hl : hs.length = fs.length) (hj : j < fs.length) : ∃ m M, L = kept p hs fs j ++ (m :: M) ++ hs.drop j ∧ i + (M.length + 1) = j := by
  obtain ⟨M, e⟩ := h.row
  have h1 := congrArg List.length e
  rw [h.len, List.length_append, List.length_append, List.length_drop, ← h.is] at h1
  cases M with
  | nil => have := h.lt; simp at h1; omega
  | cons m M => exact ⟨m, M, e, by simp at h1; omega⟩
theorem KI.skip {p : Fct → Bool} {hs : List Hdr} {fs : List Fct} {j i : Nat} {L : List Hdr} (h : KI p hs fs j i L) (hl : hs.length = fs.length) (hj : j < fs.length) (hp : p fs[j] = true) : KI p hs fs (j + 1) i L := by
  obtain ⟨M, e⟩ := h.row
  have ek : kept p hs fs (j + 1) = kept p hs fs j := by rw [kept_succ p hs fs j hl hj, hp, if_pos rfl, List.append_nil]
  refine ⟨h.len, Nat.lt_succ_of_lt h.lt, by rw [ek]; exact h.is, ⟨M ++ [hs[j]'(by omega)], ?_⟩⟩
  rw [ek, e, List.drop_eq_getElem_cons (by omega : j < hs.length)]
  simp
theorem KI.keep {p : Fct → Bool} {hs : List Hdr} {fs : List Fct} {j i : Nat} {L : List Hdr} (h : KI p hs fs j i L) (hl : hs.length = fs.length) (hj : j < fs.length) (hp : p fs[j] = false) : KI p hs fs (j + 1) (i + 1) (L.set i (hs[j]'(by omega))) := by
  obtain ⟨m, M, e, hM⟩ := h.mid hl hj
  have ek : kept p hs fs (j + 1) = kept p hs fs j ++ [hs[j]'(by omega)] := by rw [kept_succ p hs fs j hl hj, hp, if_neg (by simp)]
  refine ⟨by rw [List.length_set]; exact h.len, Nat.succ_lt_succ h.lt, by rw [ek, List.length_append, ← h.is]; rfl, ⟨M ++ [hs[j]'(by omega)], ?_⟩⟩
  rw [ek, e, List.append_assoc, List.cons_append, set_mid _ _ _ _ _ h.is.symm, List.drop_eq_getElem_cons (by omega : j < hs.length)]
  simp
theorem KI.done {p : Fct → Bool} {hs : List Hdr} {fs : List Fct} {i : Nat} {L : List Hdr} (h : KI p hs fs fs.length i L) : L.take i = kept p hs fs fs.length := by
  obtain ⟨M, e⟩ := h.row
  rw [e, List.append_assoc, h.is, List.take_left]
end Go.Proofs.YtgemaohdlibboaaGreatDoor.H
/- Facts sorted, then the repeated ones taken out: the facts in order, each once. Plain. No condition. -/
namespace Go.Proofs.YtgemaohdlibboaaGreatDoor.H
open Go Go.RowKit Go.Proofs.YtgemaohdlibboaaGreatDoorW.PrintWords Go.Proofs.YtgemaohdlibboaaGreatDoorW.PrintLast
set_option linter.unusedVariables false
set_option linter.unusedSimpArgs false

instance : DecidableEq Fct := inferInstance
end Go.Proofs.YtgemaohdlibboaaGreatDoor.H
/- Walks: the library's CompactFunc at facts. No condition. -/
namespace Go.Proofs.YtgemaohdlibboaaGreatDoor.H
open Go Go.RowKit Go.Proofs.YtgemaohdlibboaaGreatDoorW.PrintWords Go.Proofs.YtgemaohdlibboaaGreatDoorW.PrintLast
open Go.Proofs.YtgemaohdlibboaaGreatDoor.Reg (On on_draw)
set_option maxHeartbeats 4000000
set_option maxRecDepth 100000
set_option linter.unusedVariables false
set_option linter.unusedSimpArgs false

section
variable {P : Program} {ops : Array Oper} {Q : Exit → Act → World → Prop} {i : Nat} {tail : List Nat} {l : List (Nat × Reg.K)} {a a' : Act} {W : World} {o : Oper} {N : Tmp}
end
/-- The headers that are keptB of the first j. -/
def keptB (p : Bool → Bool) (hs : List Hdr) (fs : List Bool) (j : Nat) : List Hdr := (((hs.zip fs).take j).filter fun q => !p q.2).map Prod.fst
theorem keptB_succ (p : Bool → Bool) (hs : List Hdr) (fs : List Bool) (j : Nat) (hl : hs.length = fs.length) (h : j < fs.length) : keptB p hs fs (j + 1) = keptB p hs fs j ++ (if p fs[j] then [] else [hs[j]'(by omega)]) := by
  unfold keptB
  rw [List.take_succ_eq_append_getElem (by rw [List.length_zip]; omega), List.filter_append, List.map_append, List.getElem_zip, List.filter_cons]
  cases p fs[j] <;> simp
theorem keptB_front (p : Bool → Bool) (hs : List Hdr) (fs : List Bool) (hl : hs.length = fs.length) : ∀ j, j ≤ fs.length → (∀ i, (h : i < j) → (hi : i < fs.length) → p fs[i] = false) → keptB p hs fs j = hs.take j
  | 0, _, _ => by simp [keptB]
  | j + 1, hj, h => by
    rw [keptB_succ p hs fs j hl (by omega), keptB_front p hs fs hl j (by omega) (fun i hi hf => h i (by omega) hf), h j (by omega) (by omega), List.take_succ_eq_append_getElem (by omega)]
    rfl
/-- How the row stands when j facts are looked at, of which i are keptB. -/
structure KB (p : Bool → Bool) (hs : List Hdr) (fs : List Bool) (j i : Nat) (L : List Hdr) : Prop where
  len : L.length = fs.length
  lt : i < j
  is : i = (keptB p hs fs j).length
  row : ∃ M, L = keptB p hs fs j ++ M ++ hs.drop j
theorem KB.start (p : Bool → Bool) (hs : List Hdr) (fs : List Bool) (hl : hs.length = fs.length) (k : Nat) (hk : k < fs.length) (ht : p fs[k] = true) (hall : ∀ j, (hj : j < k) → p (fs[j]'(by omega)) = false) : KB p hs fs (k + 1) k hs := by
  have e : keptB p hs fs (k + 1) = hs.take k := by
    rw [keptB_succ p hs fs k hl hk, ht, if_pos rfl, List.append_nil, keptB_front p hs fs hl k (by omega) (fun i hi _ => hall i hi)]
  refine ⟨hl, Nat.lt_succ_self _, by rw [e, List.length_take]; omega, ⟨[hs[k]], ?_⟩⟩
  rw [e, ← List.take_succ_eq_append_getElem (by omega), List.take_append_drop]
theorem KB.mid {p : Bool → Bool} {hs : List Hdr} {fs : List Bool} {j i : Nat} {L : List Hdr} (h : KB p hs fs j i L) (hl : hs.length = fs.length) (hj : j < fs.length) : ∃ m M, L = keptB p hs fs j ++ (m :: M) ++ hs.drop j ∧ i + (M.length + 1) = j := by
  obtain ⟨M, e⟩ := h.row
  have h1 := congrArg List.length e
  rw [h.len, List.length_append, List.length_append, List.length_drop, ← h.is] at h1
  cases M with
  | nil => have := h.lt; simp at h1; omega
  | cons m M => exact ⟨m, M, e, by simp at h1; omega⟩
theorem KB.skip {p : Bool → Bool} {hs : List Hdr} {fs : List Bool} {j i : Nat} {L : List Hdr} (h : KB p hs fs j i L) (hl : hs.length = fs.length) (hj : j < fs.length) (hp : p fs[j] = true) : KB p hs fs (j + 1) i L := by
  obtain ⟨M, e⟩ := h.row
  have ek : keptB p hs fs (j + 1) = keptB p hs fs j := by rw [keptB_succ p hs fs j hl hj, hp, if_pos rfl, List.append_nil]
  refine ⟨h.len, Nat.lt_succ_of_lt h.lt, by rw [ek]; exact h.is, ⟨M ++ [hs[j]'(by omega)], ?_⟩⟩
  rw [ek, e, List.drop_eq_getElem_cons (by omega : j < hs.length)]
  simp
theorem KB.keep {p : Bool → Bool} {hs : List Hdr} {fs : List Bool} {j i : Nat} {L : List Hdr} (h : KB p hs fs j i L) (hl : hs.length = fs.length) (hj : j < fs.length) (hp : p fs[j] = false) : KB p hs fs (j + 1) (i + 1) (L.set i (hs[j]'(by omega))) := by
  obtain ⟨m, M, e, hM⟩ := h.mid hl hj
  have ek : keptB p hs fs (j + 1) = keptB p hs fs j ++ [hs[j]'(by omega)] := by rw [keptB_succ p hs fs j hl hj, hp, if_neg (by simp)]
  refine ⟨by rw [List.length_set]; exact h.len, Nat.succ_lt_succ h.lt, by rw [ek, List.length_append, ← h.is]; rfl, ⟨M ++ [hs[j]'(by omega)], ?_⟩⟩
  rw [ek, e, List.append_assoc, List.cons_append, set_mid _ _ _ _ _ h.is.symm, List.drop_eq_getElem_cons (by omega : j < hs.length)]
  simp
theorem KB.done {p : Bool → Bool} {hs : List Hdr} {fs : List Bool} {i : Nat} {L : List Hdr} (h : KB p hs fs fs.length i L) : L.take i = keptB p hs fs fs.length := by
  obtain ⟨M, e⟩ := h.row
  rw [e, List.append_assoc, h.is, List.take_left]
end Go.Proofs.YtgemaohdlibboaaGreatDoor.H
/- The rule for regions that draw once more, over worlds of which it is also told that the count of draws grows. No condition. -/
namespace Go.Proofs.YtgemaohdlibboaaGreatDoor.RegD
open Go Go.RowKit Go.Proofs.YtgemaohdlibboaaGreatDoor.Reg
variable {P : Program} {ops : Array Oper} {Q : Exit → Act → World → Prop} {md : Region.Mode}
/-- The worlds that go on from W, their count of draws too. -/
structure On (W w : World) : Prop where
  low : Below W.heap.size W w
  drawn : W.drawn ≤ w.drawn
theorem On.refl (W : World) : On W W := ⟨Below.refl _ _, Nat.le_refl _⟩
theorem On.trans {a b c : World} (h : On a b) (k : On b c) : On a c := ⟨Reg.On.trans h.low k.low, Nat.le_trans h.drawn k.drawn⟩
theorem On.eq {W w : World} (h : On W w) : ∀ p, (W.cell? p).isSome = true → w.cell? p = W.cell? p := Reg.On.eq h.low
theorem On.alloc {W w : World} (h : On W w) (o : Obj) : On W (w.alloc o) := ⟨Reg.On.alloc h.low o, h.drawn⟩
theorem on_draw (W : World) : On W { W with drawn := W.drawn + 1 } := ⟨Reg.on_draw W, Nat.le_succ _⟩
def wpOrd (P : Program) (ops : Array Oper) (Q : Exit → Act → World → Prop) (tail : List Nat) : List (Nat × K) → Act → World → Prop
  | [], a, W => ∀ w, On W w → wpList P ops Q (tail.filterMap fun i => ops[i]?) a w
  | (i, k) :: l, a, W =>
    match ops[i]? with
    | none => False
    | some o =>
      if Region.wanted o (yielded ops a.tmps) then
        (match k with
          | .L => ∃ v, (∀ w, On W w → (execOp a.eval o).run P w = .ok (.value v) w) ∧ wpOrd P ops Q tail l (a.put o.dst v) W
          | .C => ∃ v, (∀ w, On W w → nAt P o a w fun u w' => u = v ∧ On W w') ∧ wpOrd P ops Q tail l (a.put o.dst v) W
          | .N => ∀ w, On W w → wpList P ops (Exit.then (fun a' w' => On W w' ∧ wpOrd P ops Q tail l a' w') Q) [o] a w
          | .P => ∃ v, (∀ w, (execOp a.eval o).run P w = .ok (.value v) w) ∧ wpOrd P ops Q tail l (a.put o.dst v) W)
      else wpOrd P ops Q tail l (a.put o.dst undef) W
theorem wpOp_of_one {i : Nat} {o : Oper} {T : Act → World → Prop} {a : Act} {w : World} (hi : ops[i]? = some o) (h : wpList P ops (Exit.then T Q) [o] a w) (hl : LetsOut (Exit.then T Q) → LetsOut Q := by exact id) : wpOp P ops Q i T a w := by
  simp only [wpList] at h
  unfold wpOp
  simp only [hi]
  split
  · rename_i hw
    rw [if_pos hw] at h
    rcases h with h | ⟨h1, h2⟩
    · refine .inl ?_
      unfold Oper.wp at *
      generalize (execOp a.eval o).run P w = r at *
      cases r with
      | ok n w' =>
        cases n <;> simp only [Oper.upon] at h ⊢ <;>
          first
            | exact h
            | exact h.mono (fun e w'' he => by cases e <;> first | exact he | exact hl he)
      | halt x w' => cases x <;> simp only [Oper.upon] at h ⊢ <;> exact h
    · exact .inr ⟨h1, hl h2⟩
  · rename_i hw
    rw [if_neg hw] at h
    exact h
theorem wpT_of_tail {cl : Nat → Bool} : ∀ (l : List Nat) (listed : Array Bool) (a : Act) (S : World → Prop), (∀ i ∈ l, cl i = true) → chkTail md ops l listed = true → (∀ w, S w → wpList P ops Q (l.filterMap fun i => ops[i]?) a w) → wpT P md ops Q cl l.length listed a S
  | [], listed, a, S, _, hc, h => ⟨by simpa [chkTail] using hc, h⟩
  | i :: l, listed, a, S, hcl, hc, h => by
    simp only [chkTail, Bool.and_eq_true, beq_iff_eq] at hc
    obtain ⟨⟨hr, hbusy⟩, hl⟩ := hc
    cases hi : ops[i]? with
    | none => simp [hi] at hbusy
    | some o =>
      rw [List.length_cons]
      refine ⟨fun h0 => (by rw [hr] at h0; cases h0), fun j hj => ?_⟩
      rw [hr] at hj
      obtain rfl := List.mem_singleton.1 hj
      have ih := fun a S h => wpT_of_tail l (listed.setIfInBounds j true) a S (fun k hk => hcl k (List.mem_cons_of_mem _ hk)) hl h
      have hlist : ∀ w, S w → wpOp P ops Q j (wpList P ops Q (l.filterMap fun i => ops[i]?)) a w := fun w hS => by
        have h1 := h w hS
        simp only [List.filterMap_cons, hi] at h1
        unfold wpOp
        simp only [hi]
        unfold wpList at h1
        exact h1
      unfold Reg.stepT
      simp only [hi]
      split
      · exact .inr (.inr ⟨.inr (hcl j List.mem_cons_self), fun w hS => wpOp_mono (fun a' w' hh => ⟨fun w => w = w', rfl, fun h0 => (by rw [hcl j List.mem_cons_self] at h0; cases h0), ih a' _ (fun w e => by subst e; exact hh)⟩) (hlist w hS)⟩)
      · rename_i hw
        refine ih _ _ fun w hS => ?_
        have h1 := hlist w hS
        unfold wpOp at h1
        simp only [hi] at h1
        rw [if_neg hw] at h1
        exact h1
theorem wpT_of_ord (hs : Region.noSelect ops = true) (hQ : Plain Q) (tail : List Nat) : ∀ (l : List (Nat × K)) (listed : Array Bool) (a : Act) (W : World), closed md ops listed → chk md ops tail l listed = true → wpOrd P ops Q tail l a W → wpT P md ops Q (fun j => tail.contains j) (l.length + tail.length) listed a (On W)
  | [], listed, a, W, _, hc, h => by
    rw [List.length_nil, Nat.zero_add]
    exact wpT_of_tail tail listed a _ (fun i hi => by simpa using hi) hc h
  | (i, k) :: l, listed, a, W, hclosed, hc, h => by
    simp only [chk, Bool.and_eq_true] at hc
    obtain ⟨hk, hl⟩ := hc
    simp only [wpOrd] at h
    cases hi : ops[i]? with
    | none => simp only [hi] at h
    | some o =>
      simp only [hi] at h
      have hri : i ∈ Region.ready md ops listed := by
        cases k <;> simp only [Bool.and_eq_true, beq_iff_eq] at hk
        · simpa using hk.1.1
        · simpa using hk.1.1
        · rw [hk.1.1]; exact List.mem_singleton.2 rfl
        · simpa using hk.1
      have ih := fun a W h => wpT_of_ord hs hQ tail l (listed.setIfInBounds i true) a W (hclosed.set hri) hl h
      have sel := Region.noSelect_spec hs
      have hlen : (((i, k) :: l).length + tail.length) = (l.length + tail.length) + 1 := by rw [List.length_cons]; omega
      rw [hlen]
      have hreach : k ≠ .N → k ≠ .P → ∀ j, (tail.contains j) = true → reach md ops j i = true := by
        intro hkn hkp j hj
        have hj' : j ∈ tail := by simpa using hj
        cases k <;> simp only [Bool.and_eq_true, List.all_eq_true] at hk
        · exact hk.2 j hj'
        · exact hk.2 j hj'
        · exact absurd rfl hkn
        · exact absurd rfl hkp
      by_cases hw : Region.wanted o (yielded ops a.tmps) = true
      · rw [if_pos hw] at h
        cases k with
        | L =>
          simp only [Bool.and_eq_true] at hk
          obtain ⟨v, h1, h2⟩ := h
          exact wpT_first (c := false) hQ hi sel (hreach (by simp) (by simp)) _ listed a _ hclosed (fun j oj hj hne hun hno => freeC_spec hi hk.1.2 j oj hj hne hun hno) hri (.inl ⟨hw, fun w hS => by simpa using h1 w hS⟩) (ih _ _ h2)
        | C =>
          simp only [Bool.and_eq_true] at hk
          obtain ⟨v, h1, h2⟩ := h
          exact wpT_first (c := true) hQ hi sel (hreach (by simp) (by simp)) _ listed a _ hclosed (fun j oj hj hne hun hno => freeC_spec hi hk.1.2 j oj hj hne hun hno) hri (.inl ⟨hw, fun w hS => by simpa using h1 w hS⟩) (ih _ _ h2)
        | N =>
          simp only [Bool.and_eq_true, beq_iff_eq, busy, hi, Bool.not_eq_true'] at hk
          refine ⟨fun h0 => (by rw [hk.1.1] at h0; cases h0), fun j hj => ?_⟩
          rw [hk.1.1] at hj
          obtain rfl := List.mem_singleton.1 hj
          unfold Reg.stepT
          simp only [hi]
          rw [if_pos hw]
          exact .inr (.inr ⟨.inl hk.1.2, fun w hS => wpOp_mono (fun a' w' ⟨hon, hh⟩ => ⟨On w', On.refl _, fun _ w'' hw'' => hon.trans hw'', ih _ _ hh⟩) (wpOp_of_one hi (h w hS))⟩)
        | P =>
          simp only [Bool.and_eq_true] at hk
          obtain ⟨v, h1, h2⟩ := h
          exact wpT_firstP hQ hi sel _ listed a _ hclosed (fun j oj hj hne hun hno => (freeC_spec hi hk.2 j oj hj hne hun hno).1) hri (.inl ⟨hw, fun w _ => by simpa using h1 w⟩) (ih _ _ h2)
      · rw [if_neg hw] at h
        have hw' : Region.wanted o (yielded ops a.tmps) = false := by simpa using hw
        cases k with
        | P =>
          simp only [Bool.and_eq_true] at hk
          exact wpT_firstP hQ hi sel _ listed a _ hclosed (fun j oj hj hne hun hno => (freeC_spec hi hk.2 j oj hj hne hun hno).1) hri (.inr ⟨hw', rfl⟩) (ih _ _ h)
        | L =>
          simp only [Bool.and_eq_true] at hk
          exact wpT_first (c := false) hQ hi sel (hreach (by simp) (by simp)) _ listed a _ hclosed (fun j oj hj hne hun hno => ⟨(freeC_spec hi hk.1.2 j oj hj hne hun hno).1, fun h => by cases h⟩) hri (.inr ⟨hw', rfl⟩) (ih _ _ h)
        | C =>
          simp only [Bool.and_eq_true] at hk
          exact wpT_first (c := false) hQ hi sel (hreach (by simp) (by simp)) _ listed a _ hclosed (fun j oj hj hne hun hno => ⟨(freeC_spec hi hk.1.2 j oj hj hne hun hno).1, fun h => by cases h⟩) hri (.inr ⟨hw', rfl⟩) (ih _ _ h)
        | N =>
          simp only [Bool.and_eq_true, beq_iff_eq, busy, hi, Bool.not_eq_true'] at hk
          refine ⟨fun h0 => (by rw [hk.1.1] at h0; cases h0), fun j hj => ?_⟩
          rw [hk.1.1] at hj
          obtain rfl := List.mem_singleton.1 hj
          unfold Reg.stepT
          simp only [hi]
          rw [if_neg hw]
          exact ih _ _ h
/-- The same, shut (so that nobody lays it open unasked). -/
structure Ord (P : Program) (ops : Array Oper) (Q : Exit → Act → World → Prop) (tail : List Nat) (l : List (Nat × K)) (a : Act) (W : World) : Prop where mk :: (out : wpOrd P ops Q tail l a W)
/-- The rule: a region that draws its order, its operations taken in the order l, then the tail. -/
theorem region {id : Nat} {a : Act} {w : World} (l : List (Nat × K)) (tail : List Nat) (hm : P.follows .mixedOrders = true) (hc : (Region.noSelect ops && (l.length + tail.length == ops.size) && chk .any ops tail l (Array.replicate ops.size false)) = true)
    (h : Ord P ops Q tail l a w) (hQ : Plain Q := by exact fun c a d v w h => by cases d <;> exact h) : (Code.region id ops true).wp P Q a w := by
  simp only [Bool.and_eq_true, beq_iff_eq] at hc
  refine wp_region_any hm (wpAny_of_wpT (cl := fun j => tail.contains j) _ _ _ (On w) _ (below_drew' w) ?_)
  rw [← hc.1.2]
  exact wpT_of_ord hc.1.1 hQ tail l _ a w (closed.start _) (by rw [hc.1.2]; exact hc.2) h.out
where
  below_drew' (w : World) : On w { w with drawn := w.drawn + 1 } := on_draw w
/-! The moves. -/
section
variable {i : Nat} {tail : List Nat} {l : List (Nat × K)} {a : Act} {W : World} {o : Oper} {N : Tmp}
theorem nil (h : ∀ w, On W w → Q .normal a w) : Ord P ops Q [] [] a W := ⟨h⟩
theorem stepL {v : Value} (hy : ∀ w, On W w → (execOp a.eval o).run P w = .ok (.value v) w) (h : Ord P ops Q tail l (a.put (some N) v) W) (hi : ops[i]? = some o) (hN : o.dst = some N)
    (hw : Region.wanted o (yielded ops a.tmps) = true) : Ord P ops Q tail ((i, .L) :: l) a W := by
  refine ⟨?_⟩
  simp only [wpOrd, hi]
  rw [if_pos hw]
  exact ⟨v, hy, hN ▸ h.out⟩
theorem stepP {v : Value} (hy : ∀ w, (execOp a.eval o).run P w = .ok (.value v) w) (h : Ord P ops Q tail l (a.put (some N) v) W) (hi : ops[i]? = some o) (hN : o.dst = some N)
    (hw : Region.wanted o (yielded ops a.tmps) = true) : Ord P ops Q tail ((i, .P) :: l) a W := by
  refine ⟨?_⟩
  simp only [wpOrd, hi]
  rw [if_pos hw]
  exact ⟨v, hy, hN ▸ h.out⟩
theorem stepC {v : Value} (hy : ∀ w, On W w → nAt P o a w fun u w' => u = v ∧ On W w') (h : Ord P ops Q tail l (a.put (some N) v) W) (hi : ops[i]? = some o) (hN : o.dst = some N)
    (hw : Region.wanted o (yielded ops a.tmps) = true) : Ord P ops Q tail ((i, .C) :: l) a W := by
  refine ⟨?_⟩
  simp only [wpOrd, hi]
  rw [if_pos hw]
  exact ⟨v, hy, hN ▸ h.out⟩
theorem skip {k : K} (h : Ord P ops Q tail l (a.put (some N) undef) W) (hi : ops[i]? = some o) (hN : o.dst = some N) (hw : Region.wanted o (yielded ops a.tmps) = false) : Ord P ops Q tail ((i, k) :: l) a W := by
  refine ⟨?_⟩
  simp only [wpOrd, hi]
  rw [if_neg (by simp [hw]), hN]
  exact h.out
theorem tail_ {os : List Oper} (h : ∀ w, On W w → wpList P ops Q os a w) (hos : (tail.filterMap fun i => ops[i]?) = os := by simp only [List.filterMap_cons, List.filterMap_nil, List.getElem?_toArray, List.getElem?_cons_zero, List.getElem?_cons_succ]; rfl) : Ord P ops Q tail [] a W := by
  subst hos
  exact ⟨h⟩
end
end Go.Proofs.YtgemaohdlibboaaGreatDoor.RegD
namespace Go.Proofs.YtgemaohdlibboaaGreatDoor.HD
open Go Go.RowKit Go.Proofs.YtgemaohdlibboaaGreatDoorW.PrintWords Go.Proofs.YtgemaohdlibboaaGreatDoorW.PrintLast Go.Proofs.YtgemaohdlibboaaGreatDoor.H
open Go.Proofs.YtgemaohdlibboaaGreatDoor.RegD (On on_draw)
set_option linter.unusedVariables false
/-! Steps inside a region that draws. -/
section
variable {P : Program} {ops : Array Oper} {Q : Exit → Act → World → Prop} {i : Nat} {tail : List Nat} {l : List (Nat × Reg.K)} {a a' : Act} {W : World} {o : Oper} {N : Tmp}
theorem nAt_call {f : FuncId} {fn : Func} {xs : Array Operand} {ts : Array TypeId} {args : Array Value} {w : World} {R : Value → World → Prop} (hf : P.funcs[f]? = some fn) (hname : (fn.name == "runtime.NumGoroutine") = false) (hb : fn.body.isSome = true)
    (hop : o.op = .call { callee := .value (.func f), args := xs, argTypes := ts }) (hargs : xs.map a.eval = args) (h : Calls P f args w fun e w' => ∃ u, e = .returned u ∧ R u w') : Reg.nAt P o a w R := by
  have he := enters_ hf hname hb args w
  have hrun : (execOp a.eval o).run P w = .ok (.enter f args) w := by
    unfold execOp
    simp [hop, resolve, Deferred.ofValue, invoke, Act.eval, hargs, he]
  unfold Reg.nAt
  rw [hrun]
  exact h
/-- A call that hands back one value. -/
theorem callC {f : FuncId} {fn : Func} {xs : Array Operand} {ts : Array TypeId} {args : Array Value} (v : Value) (hf : P.funcs[f]? = some fn)
    (h : ∀ w, On W w → Calls P f args w fun e w' => e = .returned v ∧ On w w') (rest : RegD.Ord P ops Q tail l a' W) (hi : ops[i]? = some o := by rfl) (hN : o.dst = some N := by rfl)
    (hop : o.op = .call { callee := .value (.func f), args := xs, argTypes := ts } := by rfl) (hargs : xs.map a.eval = args := by (try simp only [List.map_toArray, List.map_cons, List.map_nil]); rfl)
    (hname : (fn.name == "runtime.NumGoroutine") = false := by kernel_rfl) (hb : fn.body.isSome = true := by rfl)
    (hw : Region.wanted o (yielded ops a.tmps) = true := by with_unfolding_all rfl) (ha : a.put (some N) v = a' := by simp only [Act.put, List.setIfInBounds_toArray, List.set_cons_zero, List.set_cons_succ]; rfl) : RegD.Ord P ops Q tail ((i, .C) :: l) a W :=
  RegD.stepC (v := v) (fun w hS => nAt_call hf hname hb hop hargs ((h w hS).mono fun e w' ⟨he, hS'⟩ => ⟨v, he, rfl, hS.trans hS'⟩)) (ha ▸ rest) hi hN hw
/-- A read, a sum, an address. -/
theorem sL {v : Value} (h : RegD.Ord P ops Q tail l a' W) (hi : ops[i]? = some o := by rfl) (hN : o.dst = some N := by rfl) (hw : Region.wanted o (yielded ops a.tmps) = true := by rfl)
    (hy : ∀ w, On W w → (execOp a.eval o).run P w = .ok (.value v) w := by intro w' hS; have hA := RegD.On.eq hS; clear hS; (go_simp; first | done | rfl))
    (ha : a.put (some N) v = a' := by simp only [Act.put, List.setIfInBounds_toArray, List.set_cons_zero, List.set_cons_succ]; rfl) : RegD.Ord P ops Q tail ((i, .L) :: l) a W := RegD.stepL hy (ha ▸ h) hi hN hw
/-- What asks the world nothing. -/
theorem sQ {v : Value} (h : RegD.Ord P ops Q tail l a' W) (hi : ops[i]? = some o := by rfl) (hN : o.dst = some N := by rfl) (hw : Region.wanted o (yielded ops a.tmps) = true := by rfl)
    (hy : ∀ w, (execOp a.eval o).run P w = .ok (.value v) w := by intro w'; (go_simp; first | done | rfl))
    (ha : a.put (some N) v = a' := by simp only [Act.put, List.setIfInBounds_toArray, List.set_cons_zero, List.set_cons_succ]; rfl) : RegD.Ord P ops Q tail ((i, .P) :: l) a W := RegD.stepP hy (ha ▸ h) hi hN hw
/-- Sums and differences whose bounds are known. -/
theorem sS {x y : Operand} {m n : Int} {t t2 : TypeId} (h : RegD.Ord P ops Q tail l a' W) (hi : ops[i]? = some o := by rfl) (hN : o.dst = some N := by rfl) (hop : o.op = .binOp .sub t x y t2 := by rfl) (hw : Region.wanted o (yielded ops a.tmps) = true := by rfl)
    (hx : a.eval x = .int .i64 m := by rfl) (hy : a.eval y = .int .i64 n := by rfl) {r : Int} (hb : IntKind.i64.wrap (m - n) = r := by first | (with_reducible assumption) | exact IntWalk.i64_in _ (by omega))
    (ha : a.put (some N) (.int .i64 r) = a' := by simp only [Act.put, List.setIfInBounds_toArray, List.set_cons_zero, List.set_cons_succ]; rfl) : RegD.Ord P ops Q tail ((i, .L) :: l) a W :=
  RegD.stepL (fun w _ => by
    subst hb
    unfold execOp
    simp only [hop, hx, hy]
    rfl) (ha ▸ h) hi hN hw
theorem sA {x y : Operand} {m n : Int} {t t2 : TypeId} (h : RegD.Ord P ops Q tail l a' W) (hi : ops[i]? = some o := by rfl) (hN : o.dst = some N := by rfl) (hop : o.op = .binOp .add t x y t2 := by rfl) (hw : Region.wanted o (yielded ops a.tmps) = true := by rfl)
    (hx : a.eval x = .int .i64 m := by rfl) (hy : a.eval y = .int .i64 n := by rfl) {r : Int} (hb : IntKind.i64.wrap (m + n) = r := by first | (with_reducible assumption) | exact IntWalk.i64_in _ (by omega))
    (ha : a.put (some N) (.int .i64 r) = a' := by simp only [Act.put, List.setIfInBounds_toArray, List.set_cons_zero, List.set_cons_succ]; rfl) : RegD.Ord P ops Q tail ((i, .L) :: l) a W :=
  RegD.stepL (fun w _ => by
    subst hb
    unfold execOp
    simp only [hop, hx, hy]
    rfl) (ha ▸ h) hi hN hw
/-- A choice, decided. -/
theorem sP {v : Value} {c x y : Operand} {b : Bool} (h : RegD.Ord P ops Q tail l a' W) (hi : ops[i]? = some o := by rfl) (hN : o.dst = some N := by rfl) (hop : o.op = .pick c x y := by rfl) (hw : Region.wanted o (yielded ops a.tmps) = true := by rfl)
    (hc : a.eval c = .bool b := by rfl) (hv : (if b then a.eval x else a.eval y) = v := by (go_simp; first | done | rfl))
    (ha : a.put (some N) v = a' := by simp only [Act.put, List.setIfInBounds_toArray, List.set_cons_zero, List.set_cons_succ]; rfl) : RegD.Ord P ops Q tail ((i, .L) :: l) a W :=
  RegD.stepL (fun w _ => by unfold execOp; simp only [hop, hc]; subst hv; cases b <;> rfl) (ha ▸ h) hi hN hw
/-- An operation whose guard is off. -/
theorem sO {k : Reg.K} (h : RegD.Ord P ops Q tail l a' W) (hi : ops[i]? = some o := by rfl) (hN : o.dst = some N := by rfl) (hw : Region.wanted o (yielded ops a.tmps) = false := by with_unfolding_all rfl)
    (ha : a.put (some N) undef = a' := by simp only [Act.put, List.setIfInBounds_toArray, List.set_cons_zero, List.set_cons_succ]; rfl) : RegD.Ord P ops Q tail ((i, k) :: l) a W := RegD.skip (ha ▸ h) hi hN hw
end
end Go.Proofs.YtgemaohdlibboaaGreatDoor.HD
/- Walks: the program's order of facts, in the form that SortFunc asks for. No condition. -/
namespace Go.Proofs.YtgemaohdlibboaaGreatDoor.HD
open Go Go.RowKit Go.Proofs.YtgemaohdlibboaaGreatDoorW.PrintWords Go.Proofs.YtgemaohdlibboaaGreatDoorW.PrintLast Go.Proofs.YtgemaohdlibboaaGreatDoor.H
open Go.Proofs.YtgemaohdlibboaaGreatDoor.RegD (On on_draw)
set_option maxHeartbeats 1000000
set_option maxRecDepth 100000
set_option linter.unusedVariables false
set_option linter.unusedSimpArgs false

theorem isNaN_calls (w : World) (v : Int) : Calls Tryz.prog 171 #[.int .i64 v] w fun e w' => e = .returned (.bool false) ∧ On w w' := by
  go_enter Tryz.func171, Tryz.ntmps171
  go_wp2
  go_ret
  exact ⟨by simp, On.refl _⟩
theorem cmpCompare_calls (w : World) (a b : Int) : Calls Tryz.prog 120 #[.int .i64 a, .int .i64 b] w fun e w' => e = .returned (.int .i64 (cmpI a b)) ∧ On w w' := by
  by_cases h1 : a < b
  · have h1b : decide (a < b) = true := decide_eq_true h1
    go_enter Tryz.func120, Tryz.ntmps120
    go_wp2_with (first | (go_at_call 171; refine (isNaN_calls w _).mono ?_; rintro e w1 ⟨rfl, hb1⟩) | (go_at_call 171; refine (isNaN_calls w1 _).mono ?_; rintro e w2 ⟨rfl, hb2⟩))
    go_ret
    exact ⟨ret_int (by unfold cmpI; rw [if_pos (of_decide_eq_true h1b)]), hb1.trans hb2⟩
  · have h1b : decide (a < b) = false := decide_eq_false h1
    by_cases h2 : b < a
    · have h2b : decide (b < a) = true := decide_eq_true h2
      go_enter Tryz.func120, Tryz.ntmps120
      go_wp2_with (first | (go_at_call 171; refine (isNaN_calls w _).mono ?_; rintro e w1 ⟨rfl, hb1⟩) | (go_at_call 171; refine (isNaN_calls w1 _).mono ?_; rintro e w2 ⟨rfl, hb2⟩))
      go_ret
      exact ⟨ret_int (by unfold cmpI; rw [if_neg (of_decide_eq_false h1b), if_pos (of_decide_eq_true h2b)]), hb1.trans hb2⟩
    · have h2b : decide (b < a) = false := decide_eq_false h2
      go_enter Tryz.func120, Tryz.ntmps120
      go_wp2_with (first | (go_at_call 171; refine (isNaN_calls w _).mono ?_; rintro e w1 ⟨rfl, hb1⟩) | (go_at_call 171; refine (isNaN_calls w1 _).mono ?_; rintro e w2 ⟨rfl, hb2⟩))
      go_ret
      exact ⟨ret_int (by unfold cmpI; rw [if_neg (of_decide_eq_false h1b), if_neg (of_decide_eq_false h2b)]), hb1.trans hb2⟩
theorem slicesCompare_calls (w : World) (A B : Option Addr) (c d : Nat) (a b : List Int) (ha : Ints w A c a) (hb : Ints w B d b) : Calls Tryz.prog 121 #[.slice A a.length c, .slice B b.length d] w fun e w' => e = .returned (.int .i64 (ints a b)) ∧ On w w' := by
  have hma := ha.max
  have hmb := hb.max
  go_enter Tryz.func121, Tryz.ntmps121
  go_wp2
  go_loopw [11] (fun v wr => ∃ k : Nat, k ≤ a.length ∧ k ≤ b.length ∧ v = .int .i64 k ∧ Hid (ints (a.drop k) (b.drop k) = ints a b) ∧ On w wr) (fun v _ => a.length - (intOf v).toNat)
  case atStart => exact ⟨0, Nat.zero_le _, Nat.zero_le _, rfl, rfl, On.refl _⟩
  case round =>
    obtain ⟨k, hk1, hk2, rfl, hp, hB⟩ := hrel
    by_cases h1 : k < a.length
    · obtain ⟨ad, rfl, hx⟩ := (ha.on hB.low).at k h1
      by_cases h2 : k < b.length
      · obtain ⟨bd, rfl, hy⟩ := (hb.on hB.low).at k h2
        have h2n : decide (b.length ≤ k) = false := decide_eq_false (by omega)
        have hst := Aside0.mk ((ints_stepI a b k h1 h2).symm.trans hp.out)
        clear hp
        by_cases h3 : cmpI a[k] b[k] = 0
        · have h3' := Aside0.mk h3
          have h3b : (cmpI a[k] b[k] != 0) = false := by simp [h3]
          clear h3
          go_wp2_with (go_at_call 120; refine (cmpCompare_calls _ _ _).mono ?_; rintro e w3 ⟨rfl, hb3⟩)
          go_roundw
          case rel => exact ⟨k + 1, by omega, by omega, by go_num, (by have := hst.out; rwa [if_pos h3'.out] at this : _ = _), hB.trans hb3⟩
          case measure => simp [intOf]; omega
        · have h3' := Aside0.mk h3
          have h3b : (cmpI a[k] b[k] != 0) = true := by simp [h3]
          clear h3
          go_wp2_with (go_at_call 120; refine (cmpCompare_calls _ _ _).mono ?_; rintro e w3 ⟨rfl, hb3⟩)
          go_ret
          exact ⟨ret_int (by have := hst.out; rwa [if_neg h3'.out] at this), hB.trans hb3⟩
      · have hb0 : b.drop k = [] := List.drop_of_length_le (by omega)
        have h2n : decide (b.length ≤ k) = true := decide_eq_true (by omega)
        have hp' := Aside0.mk hp.out
        clear hp
        go_wp2
        go_ret
        exact ⟨ret_int (by rw [← hp'.out, hb0, List.drop_eq_getElem_cons h1]; rfl), hB⟩
    · have ha0 : a.drop k = [] := List.drop_of_length_le (by omega)
      have hp' := Aside0.mk hp.out
      clear hp
      by_cases h2 : k < b.length
      · have h4 : a.length < b.length := by omega
        go_wp2
        go_ret
        exact ⟨ret_int (by rw [← hp'.out, ha0, List.drop_eq_getElem_cons h2]; rfl), hB⟩
      · have hb0 : b.drop k = [] := List.drop_of_length_le (by omega)
        have h4 : ¬ a.length < b.length := by omega
        go_wp2
        go_ret
        exact ⟨ret_int (by rw [← hp'.out, ha0, hb0]; rfl), hB⟩
theorem cmpOr_calls (w : World) (A c) (l : List Int) (h : Ints w A c l) : Calls Tryz.prog 119 #[.slice A l.length c] w fun e w' => e = .returned (.int .i64 (orFrom l)) ∧ On w w' := by
  have hmax := h.max
  go_enter Tryz.func119, Tryz.ntmps119
  go_wp2
  go_loop [8] (fun v => ∃ k : Nat, k ≤ l.length ∧ v = .int .i64 k ∧ Hid (orFrom (l.drop k) = orFrom l)) (fun v => l.length - (intOf v).toNat)
  case atStart => exact ⟨0, Nat.zero_le _, rfl, rfl⟩
  case round =>
    obtain ⟨k, hk, rfl, hp⟩ := hrel
    by_cases hlt : k < l.length
    · obtain ⟨ad, rfl, hx⟩ := h.at k hlt
      have hst := Aside0.mk ((orFrom_step l k hlt).symm.trans hp.out)
      clear hp
      by_cases h3 : l[k] = 0
      · have h3' := Aside0.mk h3
        have h3b : (l[k] != 0) = false := by simp [h3]
        clear h3
        go_wp2
        go_round
        case rel => exact ⟨k + 1, by omega, by go_num, (by have := hst.out; rwa [if_pos h3'.out] at this : _ = _)⟩
        case measure => simp [intOf]; omega
      · have h3' := Aside0.mk h3
        have h3b : (l[k] != 0) = true := by simp [h3]
        clear h3
        go_wp2
        go_ret
        exact ⟨ret_int (by have := hst.out; rwa [if_neg h3'.out] at this), On.refl _⟩
    · go_wp2
      go_ret
      exact ⟨ret_int (by rw [← hp.out, List.drop_of_length_le (by omega)]; rfl), On.refl _⟩
theorem iCompareFacts_calls (w : World) (A0 c0 A1 c1) (f g : Fct) (h0 : Ints w A0 c0 f.2) (h1 : Ints w A1 c1 g.2) : Calls Tryz.prog 48 #[.agg #[.int .i64 f.1, .slice A0 f.2.length c0], .agg #[.int .i64 g.1, .slice A1 g.2.length c1]] w fun e w' => e = .returned (.int .i64 (cmpF f g)) ∧ On w w' := by
  have hb0 := Aside0.mk (On.alloc (On.alloc (On.refl w) (.cells #[.int .i64 f.1, .slice A0 f.2.length c0] 60)) (.cells #[.int .i64 g.1, .slice A1 g.2.length c1] 60))
  go_enter Tryz.func48, Tryz.ntmps48
  go_wp2
  refine RegD.region [(0,.L),(1,.L),(2,.L),(3,.L),(4,.C),(5,.L),(6,.L),(7,.L),(8,.L),(9,.C)] [10,11,12] (by kernel_rfl) (by kernel_rfl) ?_
  repeat first | refine sP ?_ | refine sS ?_ | refine sA ?_ | refine sL ?_ | refine sQ ?_ | refine sO ?_
  refine callC (.int .i64 (cmpI f.1 g.1)) Tryz.func120 (fun w' hS => ?_) ?_
  focus exact cmpCompare_calls w' _ _
  repeat first | refine sP ?_ | refine sS ?_ | refine sA ?_ | refine sL ?_ | refine sQ ?_ | refine sO ?_
  refine callC (.int .i64 (ints f.2 g.2)) Tryz.func121 (fun w' hS => ?_) ?_
  focus exact slicesCompare_calls w' _ _ _ _ f.2 g.2 (h0.on (hb0.out.trans hS).low) (h1.on (hb0.out.trans hS).low)
  repeat first | refine sP ?_ | refine sS ?_ | refine sA ?_ | refine sL ?_ | refine sQ ?_ | refine sO ?_
  refine RegD.tail_ fun w2 hS => ?_
  have hc := cmpI_bd f.1 g.1
  have hi := ints_bd f.2 g.2
  have hr := Aside0.mk ((ints2 w2 (cmpI f.1 g.1) (ints f.2 g.2)).2 (fun x hx => by simp at hx; rcases hx with rfl | rfl <;> omega))
  clear hc hi
  go_wp2_with (go_at_call 119; refine (cmpOr_calls _ _ _ _ hr.out).mono ?_; rintro e w3 ⟨rfl, hb3⟩)
  go_ret
  refine ⟨ret_int ?_, (hb0.out.trans hS).trans ((On.alloc (On.refl _) _).trans hb3)⟩
  rw [cmpF_or]
  simp only [orFrom]
  by_cases h3 : cmpI f.1 g.1 = 0
  · simp only [h3, if_pos, ne_eq, not_true, if_false]
    by_cases h4 : ints f.2 g.2 = 0
    · rw [if_pos h4, h4]
    · rw [if_neg h4]
  · simp [h3]
end Go.Proofs.YtgemaohdlibboaaGreatDoor.HD
/- Facts that are read, with their headers: what SortFunc's contract takes and gives. No condition. -/
namespace Go.Proofs.YtgemaohdlibboaaGreatDoor.H
open Go Go.RowKit Go.Proofs.YtgemaohdlibboaaGreatDoorW.PrintWords Go.Proofs.YtgemaohdlibboaaGreatDoorW.PrintLast
open Go.Proofs.YtgemaohdlibboaaGreatDoor.Reg (On on_draw)
set_option maxHeartbeats 4000000
set_option maxRecDepth 100000
set_option linter.unusedVariables false
set_option linter.unusedSimpArgs false

/-- A fact of the call's own: its header, what it reads as. -/
structure Fa (w : World) (lo : Nat) where
  h : Hdr
  f : Fct
  n : h.1 = f.1
  o : OI w lo (hdV h) f.2
  r : InR f.2
instance (w : World) (lo : Nat) : Inhabited (Fa w lo) := ⟨⟨((0 : Int), none, 0, 0), ((0 : Int), []), rfl, World.ownsRow_nil _ _ _ _, fun x hx => by cases hx⟩⟩
/-- Rows that own no block in common. -/
def Off (a b : Hdr) : Prop := ∀ k, (hdV a).ownBlock = some k → (hdV b).ownBlock = some k → False
theorem Sep.pair {w : World} {lo : Nat} {hs : List Hdr} {fs : List Fct} (h : Sep w lo hs fs) : hs.Pairwise Off := by
  rw [List.pairwise_iff_getElem]
  intro i j hi hj hij k h1 h2
  have := h.apart i j _ _ k (List.getElem?_eq_getElem hi) (List.getElem?_eq_getElem hj) h1 h2
  omega
end Go.Proofs.YtgemaohdlibboaaGreatDoor.H
/- The library's SortFunc at facts: the shelf's contract laid for this program. Printed by a program of this session. No condition. -/
namespace Go.Proofs.YtgemaohdlibboaaGreatDoor.H
open Go Go.RowKit Go.Shelf Go.Proofs.YtgemaohdlibboaaGreatDoorW.PrintWords Go.Proofs.YtgemaohdlibboaaGreatDoorW.PrintLast
open Go.Proofs.YtgemaohdlibboaaGreatDoor.Reg (On on_draw)
set_option maxHeartbeats 4000000
set_option maxRecDepth 100000
set_option linter.unusedVariables false
end Go.Proofs.YtgemaohdlibboaaGreatDoor.H
/- Walks: the program puts a fact into an instance: facts sorted, each once. No condition. -/
namespace Go.Proofs.YtgemaohdlibboaaGreatDoor.H
open Go Go.RowKit Go.Proofs.YtgemaohdlibboaaGreatDoorW.PrintWords Go.Proofs.YtgemaohdlibboaaGreatDoorW.PrintLast
open Go.Proofs.YtgemaohdlibboaaGreatDoor.Reg (On on_draw)
set_option maxHeartbeats 4000000
set_option maxRecDepth 100000
set_option linter.unusedVariables false
set_option linter.unusedSimpArgs false

end Go.Proofs.YtgemaohdlibboaaGreatDoor.H
/- Walks: the reference puts a fact into an instance, if that is valid. No condition. -/
namespace Go.Proofs.YtgemaohdlibboaaGreatDoor.H
open Go Go.RowKit Go.Proofs.YtgemaohdlibboaaGreatDoorW.PrintWords Go.Proofs.YtgemaohdlibboaaGreatDoorW.PrintLast
open Go.Proofs.YtgemaohdlibboaaGreatDoor.Reg (On on_draw)
set_option maxHeartbeats 4000000
set_option maxRecDepth 100000
set_option linter.unusedVariables false
set_option linter.unusedSimpArgs false

end Go.Proofs.YtgemaohdlibboaaGreatDoor.H
/- Plain: what the law FnInsertDelete asks of insertion and deletion. No condition. -/
namespace Go.Proofs.YtgemaohdlibboaaGreatDoor.H
open Go
set_option maxHeartbeats 1000000
set_option linter.unusedVariables false
set_option linter.unusedSimpArgs false

end Go.Proofs.YtgemaohdlibboaaGreatDoor.H
/- Walks: what the law FnInsertDelete calls, in terms of values; its size test. No condition. -/
namespace Go.Proofs.YtgemaohdlibboaaGreatDoor.H
open Go Go.RowKit Go.Proofs.YtgemaohdlibboaaGreatDoorW.PrintWords Go.Proofs.YtgemaohdlibboaaGreatDoorW.PrintLast
open Go.Proofs.YtgemaohdlibboaaGreatDoor.Reg (On on_draw)
set_option maxHeartbeats 4000000
set_option maxRecDepth 100000
set_option linter.unusedVariables false
set_option linter.unusedSimpArgs false

theorem big_calls (w : World) (A n c) : Calls Tryz.prog 13 #[.slice A n c] w fun e w' => e = .returned (.bool (decide (1048576 < (n : Int)))) ∧ On w w' := by
  go_enter Tryz.func13, Tryz.ntmps13
  go_wp2
  go_ret
  exact ⟨rfl, On.refl _⟩
end Go.Proofs.YtgemaohdlibboaaGreatDoor.H
/- What a reader of facts answers, plain. No condition. -/
namespace Go.Proofs.YtgemaohdlibboaaGreatDoor.H
open Go Go.RowKit Go.Proofs.YtgemaohdlibboaaGreatDoorW.PrintWords Go.Proofs.YtgemaohdlibboaaGreatDoorW.PrintLast
open Go.Proofs.YtgemaohdlibboaaGreatDoor.Reg (On on_draw)
set_option maxRecDepth 100000
set_option linter.unusedVariables false
set_option linter.unusedSimpArgs false

theorem own1I2 (W : World) (x : Int) : OI (W.alloc (.cells #[.int .i64 x] 3 (0, 0))) W.heap.size (.slice (some ⟨W.heap.size, 0, none⟩) 1 1) [x] := lit_own W #[.int .i64 x] 3 1 1 W.heap.size (Nat.le_refl _) (by omega) rfl
theorem lit_RI2 {W w : World} {x : Int} (hx : -9223372036854775808 ≤ x ∧ x ≤ 9223372036854775807) (hb : On (W.alloc (.cells #[.int .i64 x] 3 (0, 0))) w) : kInts.C w (some ⟨W.heap.size, 0, none⟩) 1 [x] := by
  obtain ⟨A, c, e, h⟩ := OI.rd (pw_own_below (own1I2 W x) hb) (fun y hy => by simp at hy; subst hy; exact hx)
  injection e with e1 e2 e3
  subst e1
  exact h.2.1
theorem ints_of {w : World} {lo n c : Nat} {A : Option Addr} {xs : List Int} (h : OI w lo (.slice A n c) xs) (hr : InR xs) : Ints w A c xs := by
  obtain ⟨A1, c1, e, h1⟩ := h.rd hr
  injection e with e1 e2 e3
  subst e1; subst e3
  exact h1
def vsW (ws : List (List UInt8)) : List Int := ws.map fun w => (parV w).1
theorem parV_wide (s : List UInt8) : -9223372036854775808 ≤ (parV s).1 ∧ (parV s).1 ≤ 9223372036854775807 := by have := parV_bd s; omega
theorem vsW_inR (ws : List (List UInt8)) : InR (vsW ws) := fun x hx => by
  obtain ⟨w, _, rfl⟩ := List.mem_map.1 hx
  exact parV_wide w
theorem vsW_succ (ws : List (List UInt8)) (k : Nat) (h : k < ws.length) : vsW (ws.take (k + 1)) = vsW (ws.take k) ++ [(parV ws[k]).1] := by
  unfold vsW; rw [List.take_succ_eq_append_getElem h, List.map_append]; rfl
theorem cut_rest_len (s : List UInt8) (c : UInt8) : (Lib.cut s [c]).2.1.length ≤ s.length := by
  unfold Lib.cut; split <;> simp
theorem trim_len (s t : List UInt8) : (Lib.trimSuffix s t).length ≤ s.length := by
  unfold Lib.trimSuffix; split <;> simp
theorem pf_A {rs : List Rel} {s : List UInt8} {f : Fct} (h : fmtF rs f = s) (hs : s ≠ []) : parF rs s = (f, true) := by
  have hok : okFact rs f = true := by
    cases hb : okFact rs f with
    | true => rfl
    | false => exact absurd (by rw [← h]; unfold fmtF; rw [hb]; rfl) hs
  rw [← h]; exact parF_fmt hok
theorem pf_F {rs : List Rel} {s : List UInt8} (h : (parF rs s).2 = false) : parF rs s = ((0, []), false) := Prod.ext (parF_true.2 h).1 h
/-- The words of a fact's text. -/
def wsF (s : List UInt8) : List (List UInt8) := cutS 44 ((s.drop 2).take (s.length - 3))
theorem pf_B {rs : List Rel} {s : List UInt8} (h : (parF rs s).2 = true) : 3 ≤ s.length ∧ (∀ w ∈ wsF s, (parV w).2 = true) ∧ parF rs s = ((idxFrom (nmP (s.take 1)) rs 0, vsW (wsF s)), true) ∧ fmtF rs (idxFrom (nmP (s.take 1)) rs 0, vsW (wsF s)) = s := by
  obtain ⟨hok, hf⟩ := parF_true.1 h
  obtain ⟨f, hf'⟩ : ∃ f, (parF rs s).1 = f := ⟨_, rfl⟩
  rw [hf'] at hok hf
  obtain ⟨b, e, hb1, hb2, hn⟩ := fmtF_ok hok
  obtain ⟨k, hk, e1, e2, _, hne, hv⟩ := okFact_parts hok
  rw [hf] at e
  have ht : s.take 1 = [b] := by rw [e]; rfl
  have hd : (s.drop 2).take (s.length - 3) = Lib.join (f.2.map fvL) [44] := by rw [e]; simp
  have hcs : cutS 44 (Lib.join (f.2.map fvL) [44]) = f.2.map fvL := cutS_join _ (by simpa using hne) (fun w hw h44 => by
    obtain ⟨v, hv', rfl⟩ := List.mem_map.1 hw
    have := (fvL_bytes (hv v hv')).1 44 h44
    simp at this)
  have hw : wsF s = f.2.map fvL := by unfold wsF; rw [hd, hcs]
  have hix : idxFrom (nmP [b]) rs 0 = f.1 := by rw [e1, ← hn, e2]; exact idx_name (okFact_rels hok) k hk
  have hvs : vsW (f.2.map fvL) = f.2 := by
    unfold vsW; rw [List.map_map]
    have hmap : f.2.map ((fun w => (parV w).1) ∘ fvL) = f.2.map id := List.map_congr_left fun v hv' => by
      show (parV (fvL v)).1 = v
      rw [parV_fmt (hv v hv')]
    rw [hmap, List.map_id]
  have hfe : (idxFrom (nmP (s.take 1)) rs 0, vsW (wsF s)) = f := by rw [ht, hix, hw, hvs]
  refine ⟨by rw [e]; simp, fun w hm => ?_, ?_, by rw [hfe, hf]⟩
  · rw [hw] at hm
    obtain ⟨v, hv', rfl⟩ := List.mem_map.1 hm
    rw [parV_fmt (hv v hv')]
  · rw [hfe, ← hf']; exact Prod.ext rfl h
theorem pf_len {rs : List Rel} {s : List UInt8} (h : s.length < 3) : parF rs s = ((0, []), false) := pf_F (by
  cases hb : (parF rs s).2 with
  | false => rfl
  | true => have := (pf_B hb).1; omega)
theorem pf_word {rs : List Rel} {s : List UInt8} {w : List UInt8} (hm : w ∈ wsF s) (h : (parV w).2 = false) : parF rs s = ((0, []), false) := pf_F (by
  cases hb : (parF rs s).2 with
  | false => rfl
  | true => have := (pf_B hb).2.1 w hm; rw [h] at this; cases this)
theorem pf_ne {rs : List Rel} {s : List UInt8} (h : fmtF rs (idxFrom (nmP (s.take 1)) rs 0, vsW (wsF s)) ≠ s) : parF rs s = ((0, []), false) := pf_F (by
  cases hb : (parF rs s).2 with
  | false => rfl
  | true => exact absurd (pf_B hb).2.2.2 h)
end Go.Proofs.YtgemaohdlibboaaGreatDoor.H
/- Walks: the program reads a fact. No condition. -/
namespace Go.Proofs.YtgemaohdlibboaaGreatDoor.H
open Go Go.RowKit Go.Proofs.YtgemaohdlibboaaGreatDoorW.PrintWords Go.Proofs.YtgemaohdlibboaaGreatDoorW.PrintLast
open Go.Proofs.YtgemaohdlibboaaGreatDoor.Reg (On on_draw)
set_option maxHeartbeats 4000000
set_option maxRecDepth 100000
set_option linter.unusedVariables false
set_option linter.unusedSimpArgs false

section
variable {fn : Func} {p u : Tmp} {tmps : Array Value} {w : World} {g : Nat} {t : TypeId} {cs : Array Value} {fr : Nat × Nat}
theorem retFB (h : fn.results = #[.cell p 60, .tmp u]) (hp : tmps.getD p undef = .pointer (some ⟨g, 0, none⟩)) (hg : w.heap[g]? = some (.cells cs t fr)) (hs : cs.size = 2) : (results fn tmps).run Tryz.prog w = .ok (.tuple #[.agg cs, tmps.getD u undef]) w :=
  results_ct h tmps w g t cs fr _ hp hg Tryz.underlying60 rfl (by rw [hs]; kernel_rfl)
end
theorem iParseFact_calls (w : World) (A : Option Addr) (c : Nat) (rs : List Rel) (h : Rels w A c rs) (s : List UInt8) (hl : s.length ≤ 1048576) : Calls Tryz.prog 43 #[.slice A rs.length c, .string (strB s)] w (Got fun v w' => ∃ v1, v = .tuple #[.agg #[.int .i64 (parF rs s).1.1, v1], .bool (parF rs s).2] ∧ OI w' w.heap.size v1 (parF rs s).1.2 ∧ On w w') := by
  have hl' := Aside0.mk hl
  have h' := Aside0.mk h
  clear hl h
  have hb0 := Aside0.mk (On.alloc (On.refl w) (.cells #[.int .i64 0, .slice none 0 0] 60 (0, 0)))
  have hL0 := Aside0.mk (loc_new w #[.int .i64 0, .slice none 0 0] 60)
  have hc2l := Aside0.mk (cut_rest_len s 40)
  have hpf := Aside0.mk (show parF rs s = if (Lib.cut s [40]).2.2 = true ∧ fmtF rs (idxFrom (nmP (Lib.cut s [40]).1) rs 0, vsW (cutS 44 (Lib.trimSuffix (Lib.cut s [40]).2.1 [41]))) = s then ((idxFrom (nmP (Lib.cut s [40]).1) rs 0, vsW (cutS 44 (Lib.trimSuffix (Lib.cut s [40]).2.1 [41]))), true) else ((0, []), false) from rfl)
  have hct' := Aside0.mk (Cut_calls (w.alloc (.cells #[.int .i64 0, .slice none 0 0] 60 (0, 0))) s 40 (by have := hl'.out; omega))
  obtain ⟨ct, hct⟩ : ∃ ct, Lib.cut s [40] = ct := ⟨_, rfl⟩
  rw [hct] at hpf hc2l hct'
  clear hct
  obtain ⟨s1, s2, s3⟩ := ct
  simp only at hpf hc2l hct'
  go_enter Tryz.func43, Tryz.ntmps43
  go_wp2_with (go_at_call 55; refine Stop.out ?_)
  refine ⟨(hct'.out).mono ?_⟩
  rintro e w1 ⟨rfl, hb1⟩
  replace hL0 := Aside0.mk (blk_below hL0.out hb1)
  replace hb0 := Aside0.mk (hb0.out.trans hb1)
  clear hb1
  go_wp2_with (go_at_call 111; refine Stop.out ?_)
  refine ⟨(iRelationIndex_calls _ A c rs (h'.out.on hb0.out) s1).mono ?_⟩
  rintro e w2 ⟨rfl, hb1⟩
  replace hL0 := Aside0.mk (blk_below hL0.out hb1)
  replace hb0 := Aside0.mk (hb0.out.trans hb1)
  clear hb1
  obtain ⟨ix, hix⟩ : ∃ ix, idxFrom (nmP s1) rs 0 = ix := ⟨_, rfl⟩
  rw [hix] at hpf ⊢
  clear hix
  have hfill := alloc_fill w2
  go_wp2_with (go_at_call 112; refine Stop.out ?_)
  clear hfill
  have hyb := Aside0.mk (loc_new w2 #[.int .i64 ix, .slice none 0 0] 60)
  have hBy := Aside0.mk (On.alloc (On.refl w2) (.cells #[.int .i64 ix, .slice none 0 0] 60))
  have hsy := Aside0.mk (show (w2.alloc (.cells #[.int .i64 ix, .slice none 0 0] 60 (0, 0))).heap.size = w2.heap.size + 1 by simp only [World.size_alloc])
  obtain ⟨Wy, hWy⟩ : ∃ Wy, w2.alloc (.cells #[.int .i64 ix, .slice none 0 0] 60 (0, 0)) = Wy := ⟨_, rfl⟩
  rw [hWy] at hyb hBy hsy ⊢
  clear hWy
  refine ⟨(TrimSuffix_calls Wy s2 (by have := hc2l.out; have := hl'.out; omega)).mono ?_⟩
  rintro e w3 ⟨rfl, hb3⟩
  have hB3 := Aside0.mk (hBy.out.trans hb3)
  have hy3 := Aside0.mk (blk_below hyb.out hb3)
  have hs3 := Aside0.mk (show w2.heap.size + 1 ≤ w3.heap.size by have := hsy.out; have := hb3.size; omega)
  have htl := Aside0.mk (trim_len s2 [41])
  obtain ⟨tx, htx⟩ : ∃ tx, Lib.trimSuffix s2 [41] = tx := ⟨_, rfl⟩
  rw [htx] at hpf htl ⊢
  clear htx hb3 hyb hBy hsy
  go_wp2_with (go_at_call 56; refine Stop.out ?_)
  refine ⟨(Split_calls _ tx 44 (by have := htl.out; have := hc2l.out; have := hl'.out; omega)).mono ?_⟩
  rintro e w4 ⟨v, rfl, hO, hb4⟩
  have hwl := Aside0.mk (cutS_len 44 tx)
  obtain ⟨ws, hws⟩ : ∃ ws, cutS 44 tx = ws := ⟨_, rfl⟩
  rw [hws] at hO hpf hwl
  clear hws
  obtain ⟨A2, n2, rfl, hSt⟩ := OSt.slice hO
  have hmx : ws.length ≤ 9223372036854775807 := hSt.max
  have hO4 := Aside0.mk (own_lower hO hs3.out)
  have hB4 := Aside0.mk (hB3.out.trans hb4)
  have hy4 := Aside0.mk (blk_below hy3.out hb4)
  have hs4 := Aside0.mk (show w2.heap.size + 1 ≤ w4.heap.size by have := hs3.out; have := hb4.size; omega)
  have hwl' := Aside0.mk (show ws.length ≤ 1048577 by have := hwl.out; have := htl.out; have := hc2l.out; have := hl'.out; omega)
  clear hO hSt hb4 hB3 hy3 hs3 htl hwl
  go_wp2
  go_loopw [28] (fun v wr => ∃ (k : Nat) (xs : List Int) (A' : Option Addr) (c' : Nat), k ≤ ws.length ∧ v = .int .i64 k ∧ Aside0 (xs = vsW (ws.take k)) ∧ Aside0 (OI wr (w2.heap.size + 1) (.slice A' xs.length c') xs) ∧ Aside0 (OSt wr (w2.heap.size + 1) (.slice A2 ws.length n2) ws) ∧ Aside0 (w2.heap.size + 1 ≤ wr.heap.size) ∧ Aside0 (Ex (fun b => w2.heap.size ≤ b) w2 wr) ∧ wr.heap[w2.heap.size]? = some (.cells #[.int .i64 ix, .slice A' xs.length c'] 60 (0, 0))) (fun v _ => ws.length - (intOf v).toNat)
  case atStart => exact ⟨0, [], none, 0, Nat.zero_le _, rfl, ⟨rfl⟩, ⟨World.ownsRow_nil _ _ _ _⟩, hO4, hs4, ⟨Ex.of_on hB4.out⟩, hy4.out⟩
  case round =>
    obtain ⟨k, xs, A', c', hk, rfl, hxs, hO, hOs, hsz, hE, hy⟩ := hrel
    have hlen := Aside0.mk (show xs.length = k by rw [hxs.out, vsW, List.length_map, List.length_take]; omega)
    have hB := Aside0.mk (Ex.to_on hE.out fun i hi => hi)
    have hLr := Aside0.mk (blk_below hL0.out hB.out)
    have hBw := Aside0.mk (hb0.out.trans hB.out)
    have hcy := blk_cell hy
    have hy' := Aside0.mk hy
    clear hy
    by_cases hlt : k < ws.length
    · obtain ⟨ad, rfl, hx⟩ := (OSt.same hOs.out).2.cell k hlt
      obtain ⟨vv, hvv⟩ : ∃ vv, (parV ws[k]).1 = vv := ⟨_, rfl⟩
      have hvb := Aside0.mk (show -9223372036854775808 ≤ vv ∧ vv ≤ 9223372036854775807 by rw [← hvv]; exact parV_wide _)
      have hsuc := Aside0.mk (vsW_succ ws k hlt)
      have hpc := Aside0.mk (fun W => iParseValue_calls W ws[k])
      obtain ⟨wd, hwd⟩ : ∃ wd, ws[k] = wd := ⟨_, rfl⟩
      rw [hwd] at hx hvv hpc
      rw [hwd, hvv] at hsuc
      rw [hvv] at hpc
      clear hwd hvv
      go_wp2_with (go_at_call 113; refine Stop.out ?_)
      refine ⟨(hpc.out _).mono ?_⟩
      rintro e w5 ⟨rfl, hb5⟩
      have hE5 := Aside0.mk (hE.out.then_on hb5)
      have hO5 := Aside0.mk (pw_own_below hO.out hb5)
      have hOs5 := Aside0.mk (pw_own_below hOs.out hb5)
      have hsz5 := Aside0.mk (Nat.le_trans hsz.out hb5.size)
      have hy5 := Aside0.mk (blk_below hy'.out hb5)
      have hcy5 := blk_cell hy5.out
      clear hb5 hx hcy
      go_wp2_with (refine gate 41 ?_)
      have hB7 := Aside0.mk (On.alloc (On.refl w5) (.cells #[.int .i64 vv] 3 (0, 0)))
      have hR7 := Aside0.mk (lit_RI2 hvb.out (On.refl (w5.alloc (.cells #[.int .i64 vv] 3 (0, 0)))))
      generalize w5.alloc (.cells #[.int .i64 vv] 3 (0, 0)) = w7 at hB7 hR7 ⊢
      have hO7 := Aside0.mk (pw_own_below hO5.out hB7.out)
      have hOs7 := Aside0.mk (pw_own_below hOs5.out hB7.out)
      obtain ⟨zs, hz⟩ : ∃ zs, xs ++ [vv] = zs := ⟨_, rfl⟩
      have hz' := Aside0.mk hz
      refine ⟨apI 41 hz (OI.to hO7.out) hR7.out (Nat.le_trans hsz5.out hB7.out.size) (by have := hlen.out; have := hwl'.out; omega) fun v8 w8 hO8' hg8 hat8 => ?_⟩
      have hO8 := OI.of hO8'
      obtain ⟨A8, c8, rfl⟩ := own_slice hO8
      have hgy : some w2.heap.size ≠ Value.ownBlock (.slice A' xs.length c') := fun e => by have := own_base hO.out _ e.symm; omega
      have hk8 := blk_grown hg8 (blk_below hy5.out hB7.out) hgy
      have hcy8 := blk_cell hk8
      have hf8 := blk_frozen hk8
      have hk8' := Aside0.mk hk8
      have hOs8 := Aside0.mk (own_ex hOs7.out (Ex.of_grown hg8) (fun i hi e => own_ne_blk hOs7.out hO7.out (by decide) hi e.symm))
      have hO8' := Aside0.mk hO8
      have hg8' := Aside0.mk hg8
      clear hk8 hgy hcy5 hz hat8 hO8 hg8
      go_wp2
      refine ⟨⟨k + 1, zs, A8, c8, by omega, by go_num, ⟨?_⟩, ⟨ownsRow_setCell_below hO8'.out (by simp) _⟩, ⟨ownsRow_setCell_below hOs8.out (by simp) _⟩, ⟨?_⟩, ⟨?_⟩, blk_set hk8'.out 1 _⟩, by simp [intOf]; omega⟩
      · rw [← hz'.out, hsuc.out, hxs.out]
      · have h3 := hg8'.out.size; have h4 := hB7.out.size; have := hsz5.out; simp [World.setCell]; omega
      · exact ((hE5.out.then_on hB7.out).trans (Ex.of_grown hg8'.out) (fun i _ e => by have := own_base hO7.out i e.symm; omega)).trans (Ex.set _ _ _) (fun i _ e => by have h : i = w2.heap.size := e; omega)
    · have e1 : ws.take k = ws := List.take_of_length_le (by omega)
      rw [e1] at hxs
      have hI := Aside0.mk (ints_of hO.out (by rw [hxs.out]; exact vsW_inR ws))
      have hpx := Aside0.mk (show parF rs s = if s3 = true ∧ fmtF rs (ix, xs) = s then ((ix, xs), true) else ((0, []), false) by rw [hxs.out]; exact hpf.out)
      have hgl := Aside0.mk (blk_lt hL0.out)
      clear e1
      cases s3 with
      | false =>
        have hq := Aside0.mk (show parF rs s = ((0, []), false) by rw [hpx.out, if_neg (by simp)])
        have hcr : ∀ i, wr.cell? ⟨w.heap.size, i, none⟩ = _ := blk_cell hLr.out
        have hfr : ∀ i, wr.frozen? ⟨w.heap.size, i, none⟩ = _ := blk_frozen hLr.out
        go_wp2
        refine bodyPost_ret (retFB rfl rfl (g := w.heap.size) (blk_set (blk_set hLr.out 0 _) 1 _) rfl) rfl ?_
        exact ⟨_, rfl, .slice none 0 0, by rw [hq.out]; rfl, by rw [hq.out]; exact World.ownsRow_nil _ _ _ _, Reg.On.set (Reg.On.set hBw.out (by simp) _) (by simp) _⟩
      | true =>
        by_cases e : fmtF rs (ix, xs) = s
        · have hq := Aside0.mk (show parF rs s = ((ix, xs), true) by rw [hpx.out, if_pos ⟨rfl, e⟩])
          have hbn : ((strB (fmtF rs (ix, xs))).toList != (strB s).toList) = false := by rw [str_bne]; simp [e]
          have hbm : ((strB (fmtF rs (ix, xs))).toList == (strB s).toList) = true := by rw [str_beq]; simp [e]
          have hbo : ((strB (fmtF rs (ix, xs))).toList = (strB s).toList) = True := eq_true (beq_iff_eq.1 hbm)
          have he := Aside0.mk e
          clear e
          go_wp2_with (go_at_call 44; refine Stop.out ?_)
          refine ⟨(iFormatFact_calls _ A c rs (h'.out.on hBw.out) A' c' (ix, xs) hI.out).mono ?_⟩
          rintro e w6 ⟨rfl, hb6⟩
          have hy6 := Aside0.mk (blk_below hy'.out hb6)
          have hL6 := Aside0.mk (blk_below hLr.out hb6)
          have hcy6 := blk_cell hy6.out
          have hcr : ∀ i, w6.cell? ⟨w.heap.size, i, none⟩ = _ := blk_cell hL6.out
          have hfr : ∀ i, w6.frozen? ⟨w.heap.size, i, none⟩ = _ := blk_frozen hL6.out
          have hb6' := Aside0.mk hb6
          clear hb6 hcy
          go_wp2
          refine bodyPost_ret (retFB rfl rfl (g := w.heap.size) (blk_set (blk_set hL6.out 0 _) 1 _) rfl) rfl ?_
          exact ⟨_, rfl, .slice A' xs.length c', by rw [hq.out]; rfl, by rw [hq.out]; exact own_lower (ownsRow_setCell_below (ownsRow_setCell_below (pw_own_below hO.out hb6'.out) (by have := hgl.out; simp; omega) _) (by have := hgl.out; simp; omega) _) (by have := hgl.out; omega), Reg.On.set (Reg.On.set (hBw.out.trans hb6'.out) (by simp) _) (by simp) _⟩
        · have hq := Aside0.mk (show parF rs s = ((0, []), false) by rw [hpx.out, if_neg (fun h => e h.2)])
          have hbn : ((strB (fmtF rs (ix, xs))).toList != (strB s).toList) = true := by rw [str_bne]; simp [e]
          have hbm : ((strB (fmtF rs (ix, xs))).toList == (strB s).toList) = false := by rw [str_beq]; simp [e]
          have hbo : ((strB (fmtF rs (ix, xs))).toList = (strB s).toList) = False := eq_false (fun h => by rw [h] at hbm; simp at hbm)
          have he := Aside0.mk e
          clear e
          go_wp2_with (go_at_call 44; refine Stop.out ?_)
          refine ⟨(iFormatFact_calls _ A c rs (h'.out.on hBw.out) A' c' (ix, xs) hI.out).mono ?_⟩
          rintro e w6 ⟨rfl, hb6⟩
          have hL6 := Aside0.mk (blk_below hLr.out hb6)
          have hcr : ∀ i, w6.cell? ⟨w.heap.size, i, none⟩ = _ := blk_cell hL6.out
          have hfr : ∀ i, w6.frozen? ⟨w.heap.size, i, none⟩ = _ := blk_frozen hL6.out
          have hb6' := Aside0.mk hb6
          clear hb6 hcy
          go_wp2
          refine bodyPost_ret (retFB rfl rfl (g := w.heap.size) (blk_set (blk_set hL6.out 0 _) 1 _) rfl) rfl ?_
          exact ⟨_, rfl, .slice none 0 0, by rw [hq.out]; rfl, by rw [hq.out]; exact World.ownsRow_nil _ _ _ _, Reg.On.set (Reg.On.set (hBw.out.trans hb6'.out) (by simp) _) (by simp) _⟩
end Go.Proofs.YtgemaohdlibboaaGreatDoor.H
/- Walks: the reference reads relations. No condition. -/
namespace Go.Proofs.YtgemaohdlibboaaGreatDoor.H
open Go Go.RowKit Go.Proofs.YtgemaohdlibboaaGreatDoorW.PrintWords Go.Proofs.YtgemaohdlibboaaGreatDoorW.PrintLast
open Go.Proofs.YtgemaohdlibboaaGreatDoor.Reg (On on_draw)
set_option maxHeartbeats 4000000
set_option maxRecDepth 100000
set_option linter.unusedVariables false
set_option linter.unusedSimpArgs false

theorem str_nnil (a : List UInt8) : ((strB a).toList != ([] : List UInt8)) = decide (a ≠ []) := by
  rw [bne, str_nil]; by_cases h : a = [] <;> simp [h]
theorem alloc_set' (w : World) (cs : Array Value) (t : TypeId) (j : Nat) (v : Value) : (w.alloc (.cells cs t (0, 0))).setCell ⟨w.heap.size, j, none⟩ v = w.alloc (.cells (cs.setIfInBounds j v) t (0, 0)) := alloc_set w cs t j v
theorem sParseRelations_calls (w : World) (s : List UInt8) (hl : s.length ≤ 2000000) : Calls Tryz.prog 40 #[.string (strB s)] w (Got fun v w' => ∃ v1, v = .tuple #[v1, .bool (parR s).2] ∧ OR w' w.heap.size v1 (parR s).1 ∧ On w w') := by
  have hl' := Aside0.mk hl
  clear hl
  have hp := Aside0.mk (show parR s = if s = [] then ([], true) else parL s (cutS 32 s) [] by unfold parR; rfl)
  have hwl := Aside0.mk (cutS_len 32 s)
  go_enter Tryz.func40, Tryz.ntmps40
  go_wp2_with (go_at_call 54; refine Stop.out ?_)
  refine ⟨(l3Cut_calls _ s 32 hl'.out).mono ?_⟩
  rintro e w1 ⟨v, rfl, hO, hb⟩
  obtain ⟨ws, hws⟩ : ∃ ws, cutS 32 s = ws := ⟨_, rfl⟩
  have hws0 := Aside0.mk (show s = [] → ws = [[]] from fun h => by rw [← hws, h]; rfl)
  rw [hws] at hO hp hwl
  obtain ⟨A, n, rfl, hSt⟩ := OSt.slice hO
  have hOw := Aside0.mk (own_lower hO (On.alloc (On.refl w) (.cells #[] 95 (0, 0))).size)
  have hb' := Aside0.mk hb
  have hmx : ws.length ≤ 9223372036854775807 := hSt.max
  clear hO hSt hb hws
  go_wp2
  go_loopw [4, 6] (fun v4 v6 wr => ∃ (k : Nat) (out : List Rel), k ≤ ws.length ∧ v6 = .int .i64 k ∧ OR wr w.heap.size v4 out ∧ out.length ≤ k ∧ Aside0 (parL s (ws.drop k) out = parL s ws []) ∧ Aside0 (s = [] → out = []) ∧ On w wr ∧ OSt wr w.heap.size (.slice A ws.length n) ws) (fun _ v6 _ => ws.length - (intOf v6).toNat)
  case atStart => exact ⟨0, [], Nat.zero_le _, rfl, pw_own_below (ownR0 rfl (Nat.le_refl _)) hb'.out, Nat.le_refl _, ⟨rfl⟩, ⟨fun _ => rfl⟩, (On.alloc (On.refl _) _).trans hb'.out, hOw.out⟩
  case round =>
    obtain ⟨k, out, hk, rfl, hO, hol, hq, hsn, hB, hOs⟩ := hrel
    have hO' := Aside0.mk hO
    have hol' := Aside0.mk hol
    have hWW := Aside0.mk hB
    have hOs' := Aside0.mk hOs
    clear hB hO hol hOs
    by_cases hlt : k < ws.length
    · by_cases hs0 : s = []
      · have hsb := Aside0.mk (show ((strB s).toList != ([] : List UInt8)) = false by rw [str_nnil]; simp [hs0])
        have hsb1 := hsb.out
        have hsb2 : ((strB s).toList == ([] : List UInt8)) = true := by rw [str_nil]; simp [hs0]
        have hsb3 : ((strB s).toList = ([] : List UInt8)) = True := eq_true (beq_iff_eq.1 hsb2)
        have hend := Aside0.mk (show (if fmtR out = s then (out, true) else ([], false)) = parR s by rw [hp.out, if_pos hs0, hsn.out hs0, hs0, fmtR_nil, if_pos rfl])
        clear hs0 hq hsn
        obtain ⟨Ao, co, hvo, hRo⟩ := OR.rd hO'.out
        subst hvo
        have hRo' := Aside0.mk hRo
        clear hRo
        by_cases e : fmtR out = s
        · have hbn : ((strB (fmtR out)).toList != (strB s).toList) = false := by rw [str_bne]; simp [e]
          have hbm : ((strB (fmtR out)).toList == (strB s).toList) = true := by rw [str_beq]; simp [e]
          have hbo : ((strB (fmtR out)).toList = (strB s).toList) = True := eq_true (beq_iff_eq.1 hbm)
          have he := Aside0.mk e
          clear e
          go_wp2_with (go_at_call 108; refine (sFormatRelations_calls _ Ao co out hRo'.out).mono ?_; rintro e w2 ⟨rfl, hb2⟩; have hb2' := Aside0.mk hb2; clear hb2)
          go_ret2
          have h1 := hend.out
          rw [if_pos he.out] at h1
          exact ⟨_, rfl, _, by rw [← h1]; rfl, by rw [← h1]; exact pw_own_below hO'.out hb2'.out, hWW.out.trans hb2'.out⟩
        · have hbn : ((strB (fmtR out)).toList != (strB s).toList) = true := by rw [str_bne]; simp [e]
          have hbm : ((strB (fmtR out)).toList == (strB s).toList) = false := by rw [str_beq]; simp [e]
          have hbo : ((strB (fmtR out)).toList = (strB s).toList) = False := eq_false (fun h => by rw [h] at hbm; simp at hbm)
          have he := Aside0.mk e
          clear e
          go_wp2_with (go_at_call 108; refine (sFormatRelations_calls _ Ao co out hRo'.out).mono ?_; rintro e w2 ⟨rfl, hb2⟩; have hb2' := Aside0.mk hb2; clear hb2)
          go_ret2
          have h1 := hend.out
          rw [if_neg he.out] at h1
          exact ⟨_, rfl, _, by rw [← h1]; rfl, by rw [← h1]; exact ownR0 rfl (hWW.out.trans hb2'.out).size, (hWW.out.trans hb2'.out).trans (On.alloc (On.refl _) _)⟩
      · have hsb := Aside0.mk (show ((strB s).toList != ([] : List UInt8)) = true by rw [str_nnil]; simp [hs0])
        have hsb1 := hsb.out
        have hsb2 : ((strB s).toList == ([] : List UInt8)) = false := by rw [str_nil]; simp [hs0]
        have hsb3 : ((strB s).toList = ([] : List UInt8)) = False := eq_false (fun h => by rw [h] at hsb2; simp at hsb2)
        obtain ⟨ad, rfl, hx⟩ := (OSt.same hOs'.out).2.cell k hlt
        have hk' := Aside0.mk hlt
        have hst := Aside0.mk ((parL_drop s ws k hlt out).symm.trans hq.out)
        obtain ⟨wd, hwd⟩ : ∃ wd, ws[k] = wd := ⟨_, rfl⟩
        rw [hwd] at hx hst
        replace hp := Aside0.mk (show parR s = parL s ws [] by rw [hp.out, if_neg hs0])
        have hs0' := Aside0.mk hs0
        clear hwd hq hs0 hsn
        have hx2 : (wr.alloc (.cells #[.string ⟨#[]⟩, .int .i64 0, .bool false] 95 (0, 0))).cell? (ad.add k) = some (.string (strB wd)) := ((On.alloc (On.refl wr) (.cells #[.string ⟨#[]⟩, .int .i64 0, .bool false] 95 (0, 0))).eq _ (by rw [hx]; rfl)).trans hx
        clear hx
        cases wd with
        | nil =>
          have hpw := Aside0.mk (parW_none (w := []) (by simp [cutP]))
          have t1 : ((strB []).toList != ([] : List UInt8)) = false := by rw [str_nnil]; simp
          have t2 : ((strB []).toList == ([] : List UInt8)) = true := by rw [str_nil]; simp
          have t3 : ((strB []).toList = ([] : List UInt8)) = True := eq_true (beq_iff_eq.1 t2)
          have hz : (strB []).size = 0 := rfl
          have hfill := alloc_set' wr
          go_wp2
          go_ret2
          have h0 := hst.out
          rw [hpw.out] at h0
          exact ⟨_, rfl, _, by rw [hp.out, ← h0]; rfl, by rw [hp.out, ← h0]; exact ownR0 (by simp only [World.size_alloc]) (by have := hWW.out.size; simp only [World.size_alloc]; omega), hWW.out.trans ((On.alloc (On.refl _) _).trans (On.alloc (On.refl _) _))⟩
        | cons b0 r =>
          have t1 : ((strB (b0 :: r)).toList != ([] : List UInt8)) = true := by rw [str_nnil]; simp
          have t2 : ((strB (b0 :: r)).toList == ([] : List UInt8)) = false := by rw [str_nil]; simp
          have t3 : ((strB (b0 :: r)).toList = ([] : List UInt8)) = False := eq_false (fun h => by rw [h] at t2; simp at t2)
          have hzs : (strB (b0 :: r)).size = r.length + 1 := by rw [strB_size]; rfl
          have hat0 := strB_at (b0 :: r) 0 (by simp) b0 rfl
          have hpos : 0 < (strB (b0 :: r)).size := by omega
          by_cases h43 : b0 = 43
          · subst h43
            have hat0 : ∀ k : 0 < (strB (43 :: r)).size, (((strB (43 :: r))[0]'k).toNat : Int) = 43 := hat0
            have he : (strB (43 :: r)).extract 1 (strB (43 :: r)).size = strB r := by rw [strB_rest]; rfl
            have he2 : (strB (43 :: r)).extract 1 (r.length + 1) = strB r := by rw [← hzs]; exact he
            by_cases h2 : r.length = 2
            · obtain ⟨a, b, rfl⟩ : ∃ a b, r = [a, b] := by
                match r, h2 with
                | [a, b], _ => exact ⟨a, b, rfl⟩
              have hpw := Aside0.mk (parW_some (w := [43, a, b]) (a := a) (b := b) (s := true) (by simp [cutP]))
              clear h2
              have hz : (strB [a, b]).size = 2 := by rw [strB_size]; rfl
              have e1 : (strB [a, b]).extract 0 1 = strB [a] := by rw [strB_extract]; rfl
              have hat := strB_at [a, b] 1 (by simp) b rfl
              have hsub : wrap64 ((b.toNat : Int) - 48) = (b.toNat : Int) - 48 := IntWalk.wrap64_in _ (by have := b.toNat_lt; omega)
              have hwb : wrap64 (b.toNat : Int) = (b.toNat : Int) := IntWalk.wrap64_in _ (by have := b.toNat_lt; omega)
              have he3 : (strB [43, a, b]).extract 1 3 = strB [a, b] := by rw [strB_extract]; rfl
              have hfill := alloc_set' wr
              go_wp2_with (refine gate 51 ?_)
              have hS' := Aside0.mk (On.alloc (On.refl wr) (.cells #[.string (strB [a]), .int .i64 ((b.toNat : Int) - 48), .bool true] 95 (0, 0)))
              clear hfill
              generalize wr.alloc (.cells #[.string (strB [a]), .int .i64 ((b.toNat : Int) - 48), .bool true] 95 (0, 0)) = w3 at hS' ⊢
              clear e1 hat hsub hwb hz
              refine ⟨litN1 51 #[.string (strB [a]), .int .i64 ((b.toNat : Int) - 48), .bool true] 95 ?_⟩
              have hOA := Aside0.mk (own_ex hO'.out (Ex.of_on (S := fun _ => False) (hS'.out.trans (On.alloc (On.refl w3) (.cells #[.string (strB [a]), .int .i64 ((b.toNat : Int) - 48), .bool true] 95 (0, 0))))) (fun _ _ h => h))
              have hBA := Aside0.mk (hWW.out.trans (hS'.out.trans (On.alloc (On.refl w3) (.cells #[.string (strB [a]), .int .i64 ((b.toNat : Int) - 48), .bool true] 95 (0, 0)))))
              obtain ⟨ys, hys⟩ : ∃ ys, out ++ [((strB [a], (b.toNat : Int) - 48, true) : Rel)] = ys := ⟨_, rfl⟩
              have hys' := Aside0.mk hys
              refine apR 52 hys hOA.out (litR1 w3 (strB [a], (b.toNat : Int) - 48, true)) hBA.out.size (by have := hol'.out; have := hk'.out; have := hwl.out; have := hl'.out; simp; omega) fun v3 w4 hO3 hg3 => ?_
              have hO3' := Aside0.mk hO3
              have hB3 := Aside0.mk (Ex.on hBA.out (Ex.of_grown hg3) (fun i e => own_base hO'.out i e.symm))
              have hOs3 := Aside0.mk (own_ex (pw_own_below hOs'.out (hS'.out.trans (On.alloc (On.refl w3) (.cells #[.string (strB [a]), .int .i64 ((b.toNat : Int) - 48), .bool true] 95 (0, 0))))) (Ex.of_grown hg3) (fun i hi e => own_ne_blk (pw_own_below hOs'.out (hS'.out.trans (On.alloc (On.refl w3) (.cells #[.string (strB [a]), .int .i64 ((b.toNat : Int) - 48), .bool true] 95 (0, 0))))) hOA.out (by decide) hi e.symm))
              clear hys hO3 hg3
              go_wp2
              have h0 := hst.out
              rw [hpw.out] at h0
              exact ⟨⟨k + 1, ys, by have := hk'.out; omega, by go_num, hO3'.out, by rw [← hys'.out]; have := hol'.out; simp; omega, ⟨by rw [← hys'.out]; exact h0⟩, ⟨fun e => absurd e hs0'.out⟩, hB3.out, hOs3.out⟩, by simp [intOf]; have := hk'.out; omega⟩
            · have hpw := Aside0.mk (parW_none (w := 43 :: r) (by simpa [cutP] using h2))
              have hz1 : ((strB r).size : Int) ≠ 2 := by rw [strB_size]; omega
              have hz2 : (((strB r).size : Int) != 2) = true := bne_iff_ne.mpr hz1
              have hz3 : (((strB r).size : Int) == 2) = false := beq_eq_false_iff_ne.mpr hz1
              clear h2
              have hfill := alloc_set' wr
              go_wp2
              go_ret2
              have h0 := hst.out
              rw [hpw.out] at h0
              exact ⟨_, rfl, _, by rw [hp.out, ← h0]; rfl, by rw [hp.out, ← h0]; exact ownR0 (by simp only [World.size_alloc]) (by have := hWW.out.size; simp only [World.size_alloc]; omega), hWW.out.trans ((On.alloc (On.refl _) _).trans (On.alloc (On.refl _) _))⟩
          · have c1 : ((b0.toNat : Int) == 43) = false := by simp; exact fun e => h43 (UInt8.toNat_inj.1 (by show b0.toNat = 43; omega))
            have c2 : ((b0.toNat : Int) = 43) = False := eq_false (fun e => h43 (UInt8.toNat_inj.1 (by show b0.toNat = 43; omega)))
            by_cases h2 : r.length = 1
            · obtain ⟨b, rfl⟩ : ∃ b, r = [b] := by
                match r, h2 with
                | [b], _ => exact ⟨b, rfl⟩
              have hpw := Aside0.mk (parW_some (w := [b0, b]) (a := b0) (b := b) (s := false) (by simp [cutP, h43]))
              clear h2 hzs
              have hz : (strB [b0, b]).size = 2 := by rw [strB_size]; rfl
              have e1 : (strB [b0, b]).extract 0 1 = strB [b0] := by rw [strB_extract]; rfl
              have hat := strB_at [b0, b] 1 (by simp) b rfl
              have hsub : wrap64 ((b.toNat : Int) - 48) = (b.toNat : Int) - 48 := IntWalk.wrap64_in _ (by have := b.toNat_lt; omega)
              have hwb : wrap64 (b.toNat : Int) = (b.toNat : Int) := IntWalk.wrap64_in _ (by have := b.toNat_lt; omega)
              have hfill := alloc_set' wr
              go_wp2_with (refine gate 51 ?_)
              have hS' := Aside0.mk (On.alloc (On.refl wr) (.cells #[.string (strB [b0]), .int .i64 ((b.toNat : Int) - 48), .bool false] 95 (0, 0)))
              clear hfill
              generalize wr.alloc (.cells #[.string (strB [b0]), .int .i64 ((b.toNat : Int) - 48), .bool false] 95 (0, 0)) = w3 at hS' ⊢
              clear e1 hat hsub hwb hz
              refine ⟨litN1 51 #[.string (strB [b0]), .int .i64 ((b.toNat : Int) - 48), .bool false] 95 ?_⟩
              have hOA := Aside0.mk (own_ex hO'.out (Ex.of_on (S := fun _ => False) (hS'.out.trans (On.alloc (On.refl w3) (.cells #[.string (strB [b0]), .int .i64 ((b.toNat : Int) - 48), .bool false] 95 (0, 0))))) (fun _ _ h => h))
              have hBA := Aside0.mk (hWW.out.trans (hS'.out.trans (On.alloc (On.refl w3) (.cells #[.string (strB [b0]), .int .i64 ((b.toNat : Int) - 48), .bool false] 95 (0, 0)))))
              obtain ⟨ys, hys⟩ : ∃ ys, out ++ [((strB [b0], (b.toNat : Int) - 48, false) : Rel)] = ys := ⟨_, rfl⟩
              have hys' := Aside0.mk hys
              refine apR 52 hys hOA.out (litR1 w3 (strB [b0], (b.toNat : Int) - 48, false)) hBA.out.size (by have := hol'.out; have := hk'.out; have := hwl.out; have := hl'.out; simp; omega) fun v3 w4 hO3 hg3 => ?_
              have hO3' := Aside0.mk hO3
              have hB3 := Aside0.mk (Ex.on hBA.out (Ex.of_grown hg3) (fun i e => own_base hO'.out i e.symm))
              have hOs3 := Aside0.mk (own_ex (pw_own_below hOs'.out (hS'.out.trans (On.alloc (On.refl w3) (.cells #[.string (strB [b0]), .int .i64 ((b.toNat : Int) - 48), .bool false] 95 (0, 0))))) (Ex.of_grown hg3) (fun i hi e => own_ne_blk (pw_own_below hOs'.out (hS'.out.trans (On.alloc (On.refl w3) (.cells #[.string (strB [b0]), .int .i64 ((b.toNat : Int) - 48), .bool false] 95 (0, 0))))) hOA.out (by decide) hi e.symm))
              clear hys hO3 hg3
              go_wp2
              have h0 := hst.out
              rw [hpw.out] at h0
              exact ⟨⟨k + 1, ys, by have := hk'.out; omega, by go_num, hO3'.out, by rw [← hys'.out]; have := hol'.out; simp; omega, ⟨by rw [← hys'.out]; exact h0⟩, ⟨fun e => absurd e hs0'.out⟩, hB3.out, hOs3.out⟩, by simp [intOf]; have := hk'.out; omega⟩
            · have hpw := Aside0.mk (parW_none (w := b0 :: r) (by simp [cutP, h43]; omega))
              have hz1 : ((strB (b0 :: r)).size : Int) ≠ 2 := by rw [hzs]; omega
              have hz2 : (((strB (b0 :: r)).size : Int) != 2) = true := bne_iff_ne.mpr hz1
              have hz3 : (((strB (b0 :: r)).size : Int) == 2) = false := beq_eq_false_iff_ne.mpr hz1
              clear h2
              have hfill := alloc_set' wr
              go_wp2
              go_ret2
              have h0 := hst.out
              rw [hpw.out] at h0
              exact ⟨_, rfl, _, by rw [hp.out, ← h0]; rfl, by rw [hp.out, ← h0]; exact ownR0 (by simp only [World.size_alloc]) (by have := hWW.out.size; simp only [World.size_alloc]; omega), hWW.out.trans ((On.alloc (On.refl _) _).trans (On.alloc (On.refl _) _))⟩
    · have hend := Aside0.mk (show (if fmtR out = s then (out, true) else ([], false)) = parR s by
        have h0 := hq.out
        rw [List.drop_of_length_le (by omega), parL] at h0
        rw [hp.out]
        by_cases hs0 : s = []
        · rw [if_pos hs0, hsn.out hs0, hs0, fmtR_nil, if_pos rfl]
        · rw [if_neg hs0]; exact h0)
      clear hq hsn
      obtain ⟨Ao, co, hvo, hRo⟩ := OR.rd hO'.out
      subst hvo
      have hRo' := Aside0.mk hRo
      clear hRo
      by_cases e : fmtR out = s
      · have hbn : ((strB (fmtR out)).toList != (strB s).toList) = false := by rw [str_bne]; simp [e]
        have hbm : ((strB (fmtR out)).toList == (strB s).toList) = true := by rw [str_beq]; simp [e]
        have hbo : ((strB (fmtR out)).toList = (strB s).toList) = True := eq_true (beq_iff_eq.1 hbm)
        have he := Aside0.mk e
        clear e
        go_wp2_with (go_at_call 108; refine (sFormatRelations_calls _ Ao co out hRo'.out).mono ?_; rintro e w2 ⟨rfl, hb2⟩; have hb2' := Aside0.mk hb2; clear hb2)
        go_ret2
        have h1 := hend.out
        rw [if_pos he.out] at h1
        exact ⟨_, rfl, _, by rw [← h1]; rfl, by rw [← h1]; exact pw_own_below hO'.out hb2'.out, hWW.out.trans hb2'.out⟩
      · have hbn : ((strB (fmtR out)).toList != (strB s).toList) = true := by rw [str_bne]; simp [e]
        have hbm : ((strB (fmtR out)).toList == (strB s).toList) = false := by rw [str_beq]; simp [e]
        have hbo : ((strB (fmtR out)).toList = (strB s).toList) = False := eq_false (fun h => by rw [h] at hbm; simp at hbm)
        have he := Aside0.mk e
        clear e
        go_wp2_with (go_at_call 108; refine (sFormatRelations_calls _ Ao co out hRo'.out).mono ?_; rintro e w2 ⟨rfl, hb2⟩; have hb2' := Aside0.mk hb2; clear hb2)
        go_ret2
        have h1 := hend.out
        rw [if_neg he.out] at h1
        exact ⟨_, rfl, _, by rw [← h1]; rfl, by rw [← h1]; exact ownR0 rfl (hWW.out.trans hb2'.out).size, (hWW.out.trans hb2'.out).trans (On.alloc (On.refl _) _)⟩
end Go.Proofs.YtgemaohdlibboaaGreatDoor.H
/- Walks: the reference reads a fact. No condition. -/
namespace Go.Proofs.YtgemaohdlibboaaGreatDoor.H
open Go Go.RowKit Go.Proofs.YtgemaohdlibboaaGreatDoorW.PrintWords Go.Proofs.YtgemaohdlibboaaGreatDoorW.PrintLast
open Go.Proofs.YtgemaohdlibboaaGreatDoor.Reg (On on_draw)
set_option maxHeartbeats 4000000
set_option maxRecDepth 100000
set_option linter.unusedVariables false
set_option linter.unusedSimpArgs false

theorem sParseFact_calls (w : World) (A : Option Addr) (c : Nat) (rs : List Rel) (h : Rels w A c rs) (s : List UInt8) (hl : s.length ≤ 1048576) : Calls Tryz.prog 46 #[.slice A rs.length c, .string (strB s)] w (Got fun v w' => ∃ v1, v = .tuple #[.agg #[.int .i64 (parF rs s).1.1, v1], .bool (parF rs s).2] ∧ OI w' w.heap.size v1 (parF rs s).1.2 ∧ On w w') := by
  have hl' := Aside0.mk hl
  have h' := Aside0.mk h
  clear hl h
  have hb0 := Aside0.mk (On.alloc (On.refl w) (.cells #[.int .i64 0, .slice none 0 0] 60 (0, 0)))
  have hL0 := Aside0.mk (loc_new w #[.int .i64 0, .slice none 0 0] 60)
  by_cases h3 : s.length < 3
  · have hq := Aside0.mk (pf_len (rs := rs) h3)
    have c1 : ((strB s).size < 3) = True := eq_true (by rw [strB_size]; omega)
    have c2 : (((strB s).size : Int) < 3) = True := eq_true (by rw [strB_size]; omega)
    clear h3
    go_enter Tryz.func46, Tryz.ntmps46
    have hcr := blk_cell hL0.out
    have hfr := blk_frozen hL0.out
    go_wp2
    refine bodyPost_ret (retFB rfl rfl (g := w.heap.size) hL0.out rfl) rfl ?_
    exact ⟨_, rfl, .slice none 0 0, by rw [hq.out]; rfl, by rw [hq.out]; exact World.ownsRow_nil _ _ _ _, hb0.out⟩
  · have c1 : ((strB s).size < 3) = False := eq_false (by rw [strB_size]; omega)
    have c2 : (((strB s).size : Int) < 3) = False := eq_false (by rw [strB_size]; omega)
    have hnn := Aside0.mk (show s ≠ [] from fun e => h3 (by rw [e]; simp))
    have e1 : (strB s).extract 0 1 = strB (s.take 1) := by rw [strB_extract]; rfl
    have e2 : (strB s).extract 2 ((strB s).size - 1) = strB ((s.drop 2).take (s.length - 3)) := by rw [strB_extract, strB_size]; rfl
    have hz1 : (1 ≤ (strB s).size) = True := eq_true (by rw [strB_size]; omega)
    have hz2 : 2 ≤ (strB s).size - 1 := by rw [strB_size]; omega
    have hwr : wrap64 (((strB s).size : Int) - 1) = (((strB s).size - 1 : Nat) : Int) := by rw [strB_size, IntWalk.wrap64_in _ (by have := hl'.out; omega)]; omega
    have hwl := Aside0.mk (cutS_len 44 ((s.drop 2).take (s.length - 3)))
    have htl := Aside0.mk (show ((s.drop 2).take (s.length - 3)).length ≤ 1048576 by have := hl'.out; simp; omega)
    have hne := Aside0.mk (fun (e : fmtF rs (idxFrom (nmP (s.take 1)) rs 0, vsW (wsF s)) ≠ s) => pf_ne (rs := rs) e)
    have hye := Aside0.mk (fun (e : fmtF rs (idxFrom (nmP (s.take 1)) rs 0, vsW (wsF s)) = s) => pf_A (rs := rs) e hnn.out)
    have hwd := Aside0.mk (fun (x : List UInt8) (hm : x ∈ wsF s) (e : (parV x).2 = false) => pf_word (rs := rs) hm e)
    obtain ⟨t1, ht1⟩ : ∃ t1, s.take 1 = t1 := ⟨_, rfl⟩
    obtain ⟨tx, htx⟩ : ∃ tx, (s.drop 2).take (s.length - 3) = tx := ⟨_, rfl⟩
    have hwf : wsF s = cutS 44 tx := by unfold wsF; rw [htx]
    rw [ht1] at e1 hne hye
    rw [htx] at e2 hwl htl
    rw [hwf] at hne hye hwd
    have hsl : ∀ wx, (Instr.slice 9 (.string (strB s)) (some (.int .i64 2)) (some (.int .i64 (((strB s).size - 1 : Nat) : Int))) none).run Tryz.prog wx = .ok (.string (strB tx)) wx := fun wx => by
      have h := run_slice_string (P := Tryz.prog) wx 9 (strB s) .i64 .i64 2 (((strB s).size - 1 : Nat) : Int) Tryz.underlying9 (by omega) (by omega) (by omega)
      rw [h, ← e2]; rfl
    clear h3 ht1 htx hwf
    go_enter Tryz.func46, Tryz.ntmps46
    go_wp2_with (go_at_call 117; refine Stop.out ?_)
    refine ⟨(sRelationIndex_calls _ A c rs (h'.out.on hb0.out) t1).mono ?_⟩
    rintro e w2 ⟨rfl, hb1⟩
    replace hL0 := Aside0.mk (blk_below hL0.out hb1)
    replace hb0 := Aside0.mk (hb0.out.trans hb1)
    clear hb1
    obtain ⟨ix, hix⟩ : ∃ ix, idxFrom (nmP t1) rs 0 = ix := ⟨_, rfl⟩
    rw [hix] at hne hye ⊢
    clear hix
    have hfill := alloc_fill w2
    go_wp2_with (go_at_call 54; refine Stop.out ?_)
    clear hfill
    have hyb := Aside0.mk (loc_new w2 #[.int .i64 ix, .slice none 0 0] 60)
    have hBy := Aside0.mk (On.alloc (On.refl w2) (.cells #[.int .i64 ix, .slice none 0 0] 60))
    have hsy := Aside0.mk (show (w2.alloc (.cells #[.int .i64 ix, .slice none 0 0] 60 (0, 0))).heap.size = w2.heap.size + 1 by simp only [World.size_alloc])
    obtain ⟨Wy, hWy⟩ : ∃ Wy, w2.alloc (.cells #[.int .i64 ix, .slice none 0 0] 60 (0, 0)) = Wy := ⟨_, rfl⟩
    rw [hWy] at hyb hBy hsy ⊢
    clear hWy
    refine ⟨(l3Cut_calls Wy tx 44 (by have := htl.out; omega)).mono ?_⟩
    rintro e w4 ⟨v, rfl, hO, hb4⟩
    obtain ⟨ws, hws⟩ : ∃ ws, cutS 44 tx = ws := ⟨_, rfl⟩
    rw [hws] at hO hne hye hwd hwl
    clear hws
    obtain ⟨A2, n2, rfl, hSt⟩ := OSt.slice hO
    have hmx : ws.length ≤ 9223372036854775807 := hSt.max
    have hO4 := Aside0.mk (own_lower hO (Nat.le_of_eq hsy.out.symm))
    have hB4 := Aside0.mk (hBy.out.trans hb4)
    have hy4 := Aside0.mk (blk_below hyb.out hb4)
    have hs4 := Aside0.mk (show w2.heap.size + 1 ≤ w4.heap.size by have := hsy.out; have := hb4.size; omega)
    have hwl' := Aside0.mk (show ws.length ≤ 1048577 by have := hwl.out; have := htl.out; omega)
    clear hO hSt hb4 hBy hyb hsy htl hwl
    clear c1 c2 e1 e2 hz1 hz2 hwr hsl
    go_wp2
    go_loopw [8] (fun v wr => ∃ (k : Nat) (xs : List Int) (A' : Option Addr) (c' : Nat), k ≤ ws.length ∧ v = .int .i64 k ∧ Aside0 (xs = vsW (ws.take k)) ∧ Aside0 (OI wr (w2.heap.size + 1) (.slice A' xs.length c') xs) ∧ Aside0 (OSt wr (w2.heap.size + 1) (.slice A2 ws.length n2) ws) ∧ Aside0 (w2.heap.size + 1 ≤ wr.heap.size) ∧ Aside0 (Ex (fun b => w2.heap.size ≤ b) w2 wr) ∧ wr.heap[w2.heap.size]? = some (.cells #[.int .i64 ix, .slice A' xs.length c'] 60 (0, 0))) (fun v _ => ws.length - (intOf v).toNat)
    case atStart => exact ⟨0, [], none, 0, Nat.zero_le _, rfl, ⟨rfl⟩, ⟨World.ownsRow_nil _ _ _ _⟩, hO4, hs4, ⟨Ex.of_on hB4.out⟩, hy4.out⟩
    case round =>
      obtain ⟨k, xs, A', c', hk, rfl, hxs, hO, hOs, hsz, hE, hy⟩ := hrel
      have hlen := Aside0.mk (show xs.length = k by rw [hxs.out, vsW, List.length_map, List.length_take]; omega)
      have hB := Aside0.mk (Ex.to_on hE.out fun i hi => hi)
      have hLr := Aside0.mk (blk_below hL0.out hB.out)
      have hBw := Aside0.mk (hb0.out.trans hB.out)
      have hy' := Aside0.mk hy
      clear hy
      by_cases hlt : k < ws.length
      · obtain ⟨ad, rfl, hx⟩ := (OSt.same hOs.out).2.cell k hlt
        have hmem := Aside0.mk (hwd.out _ (List.getElem_mem hlt))
        obtain ⟨vv, hvv⟩ : ∃ vv, (parV ws[k]).1 = vv := ⟨_, rfl⟩
        obtain ⟨vb, hvb0⟩ : ∃ vb, (parV ws[k]).2 = vb := ⟨_, rfl⟩
        have hvb := Aside0.mk (show -9223372036854775808 ≤ vv ∧ vv ≤ 9223372036854775807 by rw [← hvv]; exact parV_wide _)
        have hsuc := Aside0.mk (vsW_succ ws k hlt)
        have hpc := Aside0.mk (fun W => sParseValue_calls W ws[k])
        obtain ⟨wd, hwd'⟩ : ∃ wd, ws[k] = wd := ⟨_, rfl⟩
        rw [hwd'] at hx hvv hpc hvb0 hmem
        rw [hwd', hvv] at hsuc
        rw [hvv, hvb0] at hpc
        rw [hvb0] at hmem
        clear hwd' hvv hvb0
        go_wp2_with (go_at_call 118; refine Stop.out ?_)
        refine ⟨(hpc.out _).mono ?_⟩
        rintro e w5 ⟨rfl, hb5⟩
        have hE5 := Aside0.mk (hE.out.then_on hb5)
        have hO5 := Aside0.mk (pw_own_below hO.out hb5)
        have hOs5 := Aside0.mk (pw_own_below hOs.out hb5)
        have hsz5 := Aside0.mk (Nat.le_trans hsz.out hb5.size)
        have hy5 := Aside0.mk (blk_below hy'.out hb5)
        have hL6 := Aside0.mk (blk_below hLr.out hb5)
        have hb6' := Aside0.mk hb5
        clear hb5 hx
        cases vb with
        | false =>
          have hq := Aside0.mk (hmem.out rfl)
          have hcr : ∀ i, w5.cell? ⟨w.heap.size, i, none⟩ = _ := blk_cell hL6.out
          have hfr : ∀ i, w5.frozen? ⟨w.heap.size, i, none⟩ = _ := blk_frozen hL6.out
          go_wp2
          refine bodyPost_ret (retFB rfl rfl (g := w.heap.size) (blk_set (blk_set hL6.out 0 _) 1 _) rfl) rfl ?_
          exact ⟨_, rfl, .slice none 0 0, by rw [hq.out]; rfl, by rw [hq.out]; exact World.ownsRow_nil _ _ _ _, Reg.On.set (Reg.On.set (hBw.out.trans hb6'.out) (by simp) _) (by simp) _⟩
        | true =>
          have hcy5 := blk_cell hy5.out
          go_wp2_with (refine gate 47 ?_)
          have hB7 := Aside0.mk (On.alloc (On.refl w5) (.cells #[.int .i64 vv] 3 (0, 0)))
          have hR7 := Aside0.mk (lit_RI2 hvb.out (On.refl (w5.alloc (.cells #[.int .i64 vv] 3 (0, 0)))))
          generalize w5.alloc (.cells #[.int .i64 vv] 3 (0, 0)) = w7 at hB7 hR7 ⊢
          have hO7 := Aside0.mk (pw_own_below hO5.out hB7.out)
          have hOs7 := Aside0.mk (pw_own_below hOs5.out hB7.out)
          obtain ⟨zs, hz⟩ : ∃ zs, xs ++ [vv] = zs := ⟨_, rfl⟩
          have hz' := Aside0.mk hz
          refine ⟨apI 47 hz (OI.to hO7.out) hR7.out (Nat.le_trans hsz5.out hB7.out.size) (by have := hlen.out; have := hwl'.out; omega) fun v8 w8 hO8' hg8 hat8 => ?_⟩
          have hO8 := OI.of hO8'
          obtain ⟨A8, c8, rfl⟩ := own_slice hO8
          have hgy : some w2.heap.size ≠ Value.ownBlock (.slice A' xs.length c') := fun e => by have := own_base hO.out _ e.symm; omega
          have hk8 := blk_grown hg8 (blk_below hy5.out hB7.out) hgy
          have hcy8 := blk_cell hk8
          have hf8 := blk_frozen hk8
          have hk8' := Aside0.mk hk8
          have hOs8 := Aside0.mk (own_ex hOs7.out (Ex.of_grown hg8) (fun i hi e => own_ne_blk hOs7.out hO7.out (by decide) hi e.symm))
          have hO8' := Aside0.mk hO8
          have hg8' := Aside0.mk hg8
          clear hk8 hgy hcy5 hz hat8 hO8 hg8
          go_wp2
          refine ⟨⟨k + 1, zs, A8, c8, by omega, by go_num, ⟨?_⟩, ⟨ownsRow_setCell_below hO8'.out (by simp) _⟩, ⟨ownsRow_setCell_below hOs8.out (by simp) _⟩, ⟨?_⟩, ⟨?_⟩, blk_set hk8'.out 1 _⟩, by simp [intOf]; omega⟩
          · rw [← hz'.out, hsuc.out, hxs.out]
          · have h3 := hg8'.out.size; have h4 := hB7.out.size; have := hsz5.out; simp [World.setCell]; omega
          · exact ((hE5.out.then_on hB7.out).trans (Ex.of_grown hg8'.out) (fun i _ e => by have := own_base hO7.out i e.symm; omega)).trans (Ex.set _ _ _) (fun i _ e => by have h : i = w2.heap.size := e; omega)
      · have e1 : ws.take k = ws := List.take_of_length_le (by omega)
        rw [e1] at hxs
        have hI := Aside0.mk (ints_of hO.out (by rw [hxs.out]; exact vsW_inR ws))
        rw [← hxs.out] at hne hye
        have hgl := Aside0.mk (blk_lt hL0.out)
        have hcy := blk_cell hy'.out
        clear e1
        by_cases e : fmtF rs (ix, xs) = s
        · have hq := Aside0.mk (hye.out e)
          have hbn : ((strB (fmtF rs (ix, xs))).toList != (strB s).toList) = false := by rw [str_bne]; simp [e]
          have hbm : ((strB (fmtF rs (ix, xs))).toList == (strB s).toList) = true := by rw [str_beq]; simp [e]
          have hbo : ((strB (fmtF rs (ix, xs))).toList = (strB s).toList) = True := eq_true (beq_iff_eq.1 hbm)
          have he := Aside0.mk e
          clear e
          go_wp2_with (go_at_call 114; refine Stop.out ?_)
          refine ⟨(sFormatFact_calls _ A c rs (h'.out.on hBw.out) A' c' (ix, xs) hI.out).mono ?_⟩
          rintro e w6 ⟨rfl, hb6⟩
          have hy6 := Aside0.mk (blk_below hy'.out hb6)
          have hL6 := Aside0.mk (blk_below hLr.out hb6)
          have hcy6 := blk_cell hy6.out
          have hcr : ∀ i, w6.cell? ⟨w.heap.size, i, none⟩ = _ := blk_cell hL6.out
          have hfr : ∀ i, w6.frozen? ⟨w.heap.size, i, none⟩ = _ := blk_frozen hL6.out
          have hb6' := Aside0.mk hb6
          clear hb6 hcy
          go_wp2
          refine bodyPost_ret (retFB rfl rfl (g := w.heap.size) (blk_set (blk_set hL6.out 0 _) 1 _) rfl) rfl ?_
          exact ⟨_, rfl, .slice A' xs.length c', by rw [hq.out]; rfl, by rw [hq.out]; exact own_lower (ownsRow_setCell_below (ownsRow_setCell_below (pw_own_below hO.out hb6'.out) (by have := hgl.out; simp; omega) _) (by have := hgl.out; simp; omega) _) (by have := hgl.out; omega), Reg.On.set (Reg.On.set (hBw.out.trans hb6'.out) (by simp) _) (by simp) _⟩
        · have hq := Aside0.mk (hne.out e)
          have hbn : ((strB (fmtF rs (ix, xs))).toList != (strB s).toList) = true := by rw [str_bne]; simp [e]
          have hbm : ((strB (fmtF rs (ix, xs))).toList == (strB s).toList) = false := by rw [str_beq]; simp [e]
          have hbo : ((strB (fmtF rs (ix, xs))).toList = (strB s).toList) = False := eq_false (fun h => by rw [h] at hbm; simp at hbm)
          have he := Aside0.mk e
          clear e
          go_wp2_with (go_at_call 114; refine Stop.out ?_)
          refine ⟨(sFormatFact_calls _ A c rs (h'.out.on hBw.out) A' c' (ix, xs) hI.out).mono ?_⟩
          rintro e w6 ⟨rfl, hb6⟩
          have hL6 := Aside0.mk (blk_below hLr.out hb6)
          have hcr : ∀ i, w6.cell? ⟨w.heap.size, i, none⟩ = _ := blk_cell hL6.out
          have hfr : ∀ i, w6.frozen? ⟨w.heap.size, i, none⟩ = _ := blk_frozen hL6.out
          have hb6' := Aside0.mk hb6
          clear hb6 hcy
          go_wp2
          refine bodyPost_ret (retFB rfl rfl (g := w.heap.size) (blk_set (blk_set hL6.out 0 _) 1 _) rfl) rfl ?_
          exact ⟨_, rfl, .slice none 0 0, by rw [hq.out]; rfl, by rw [hq.out]; exact World.ownsRow_nil _ _ _ _, Reg.On.set (Reg.On.set (hBw.out.trans hb6'.out) (by simp) _) (by simp) _⟩
end Go.Proofs.YtgemaohdlibboaaGreatDoor.H
/- Walks: the law FnExactParseFact. No condition. -/
namespace Go.Proofs.YtgemaohdlibboaaGreatDoor.H
open Go Go.RowKit Go.Proofs.YtgemaohdlibboaaGreatDoorW.PrintWords Go.Proofs.YtgemaohdlibboaaGreatDoorW.PrintLast
open Go.Proofs.YtgemaohdlibboaaGreatDoor.Reg (On on_draw)
set_option maxHeartbeats 8000000
set_option maxRecDepth 100000
set_option linter.unusedVariables false
set_option linter.unusedSimpArgs false

theorem parF_inR (rs : List Rel) (s : List UInt8) : InR (parF rs s).1.2 := by
  cases h : (parF rs s).2 with
  | false => rw [(parF_true.2 h).1]; intro x hx; cases hx
  | true => rw [(pf_B h).2.2.1]; exact vsW_inR _
theorem sPFV (w : World) (v : Value) (rs : List Rel) (s : List UInt8) (h : ∃ A c, v = .slice A rs.length c ∧ Rels w A c rs) (hl : s.length ≤ 1048576) : Calls Tryz.prog 46 #[v, .string (strB s)] w (Got fun u w' => ∃ v1, u = .tuple #[v1, .bool (parF rs s).2] ∧ OFa w' w.heap.size v1 (parF rs s).1 ∧ On w w') := by
  obtain ⟨A, c, rfl, hr⟩ := h
  refine (sParseFact_calls w A c rs hr s hl).mono ?_
  rintro e w' ⟨u, rfl, v1, rfl, hO, hb⟩
  exact ⟨_, rfl, _, rfl, ⟨_, rfl, hO, parF_inR rs s⟩, hb⟩
theorem iPFV (w : World) (v : Value) (rs : List Rel) (s : List UInt8) (h : ∃ A c, v = .slice A rs.length c ∧ Rels w A c rs) (hl : s.length ≤ 1048576) : Calls Tryz.prog 43 #[v, .string (strB s)] w (Got fun u w' => ∃ v1, u = .tuple #[v1, .bool (parF rs s).2] ∧ OFa w' w.heap.size v1 (parF rs s).1 ∧ On w w') := by
  obtain ⟨A, c, rfl, hr⟩ := h
  refine (iParseFact_calls w A c rs hr s hl).mono ?_
  rintro e w' ⟨u, rfl, v1, rfl, hO, hb⟩
  exact ⟨_, rfl, _, rfl, ⟨_, rfl, hO, parF_inR rs s⟩, hb⟩
end Go.Proofs.YtgemaohdlibboaaGreatDoor.H
/- Walks: the law FnRelationAndFactFormat. No condition. -/
namespace Go.Proofs.YtgemaohdlibboaaGreatDoor.H
open Go Go.RowKit Go.Proofs.YtgemaohdlibboaaGreatDoorW.PrintWords Go.Proofs.YtgemaohdlibboaaGreatDoorW.PrintLast
open Go.Proofs.YtgemaohdlibboaaGreatDoor.Reg (On on_draw)
set_option maxHeartbeats 8000000
set_option maxRecDepth 100000
set_option linter.unusedVariables false
set_option linter.unusedSimpArgs false

theorem ifrV (w : World) (v : Value) (rs : List Rel) (h : RRl w v rs) : Calls Tryz.prog 38 #[v] w fun e w' => e = .returned (.string (strB (fmtR rs))) ∧ On w w' := by
  obtain ⟨A, c, rfl, h1⟩ := h.out
  exact iFormatRelations_calls w A c rs h1
theorem sokV2 (w : World) (v : Value) (rs : List Rel) (h : RRl w v rs) : Calls Tryz.prog 41 #[v] w fun e w' => e = .returned (.bool (okRels rs)) ∧ On w w' := by
  obtain ⟨A, c, rfl, h1⟩ := h.out
  exact AreValidRelations_calls w A c rs h1
theorem iokV2 (w : World) (v : Value) (rs : List Rel) (h : RRl w v rs) : Calls Tryz.prog 49 #[v] w fun e w' => e = .returned (.bool (okRels rs)) ∧ On w w' := by
  obtain ⟨A, c, rfl, h1⟩ := h.out
  exact iAreValidRelations_calls w A c rs h1
theorem svfV (w : World) (v u : Value) (rs : List Rel) (f : Fct) (h : RRl w v rs) (k : RFa w u f) : Calls Tryz.prog 47 #[v, u] w fun e w' => e = .returned (.bool (okFact rs f)) ∧ On w w' := by
  obtain ⟨A, c, rfl, h1⟩ := h.out
  obtain ⟨B, d, rfl, k1⟩ := k.out
  exact IsValidFact_calls w A c rs B d f h1 k1
theorem ivfV (w : World) (v u : Value) (rs : List Rel) (f : Fct) (h : RRl w v rs) (k : RFa w u f) : Calls Tryz.prog 50 #[v, u] w fun e w' => e = .returned (.bool (okFact rs f)) ∧ On w w' := by
  obtain ⟨A, c, rfl, h1⟩ := h.out
  obtain ⟨B, d, rfl, k1⟩ := k.out
  exact iIsValidFact_calls w A c rs B d f h1 k1
theorem iffV (w : World) (v u : Value) (rs : List Rel) (f : Fct) (h : RRl w v rs) (k : RFa w u f) : Calls Tryz.prog 44 #[v, u] w fun e w' => e = .returned (.string (strB (fmtF rs f))) ∧ On w w' := by
  obtain ⟨A, c, rfl, h1⟩ := h.out
  obtain ⟨B, d, rfl, k1⟩ := k.out
  exact iFormatFact_calls w A c rs h1 B d f k1
theorem icmV (w : World) (v u : Value) (f : Fct) (h : RFa w v f) (k : RFa w u f) : Calls Tryz.prog 48 #[v, u] w fun e w' => e = .returned (.int .i64 0) ∧ On w w' := by
  obtain ⟨A, c, rfl, h1⟩ := h.out
  obtain ⟨B, d, rfl, k1⟩ := k.out
  exact (iCompareFacts_calls w A c B d f f h1 k1).mono fun e w' hh => ⟨by rw [hh.1, cmpF_self], hh.2⟩
theorem parF_of (rs : List Rel) (f : Fct) : (okFact rs f = true ∧ parF rs (fmtF rs f) = (f, true)) ∨ (okFact rs f = false ∧ parF rs (fmtF rs f) = ((0, []), false)) := by
  cases h : okFact rs f with
  | true => exact .inl ⟨rfl, parF_fmt h⟩
  | false =>
    refine .inr ⟨rfl, ?_⟩
    have e : fmtF rs f = [] := by unfold fmtF; rw [h]; rfl
    rw [e]
    exact pf_len (by simp)
/-- What reading what was written gives: all relations, and a yes. -/
theorem parR_of (rs : List Rel) : parR (fmtR rs) = (if okRels rs = true then rs else [], true) := by
  cases h : okRels rs with
  | true => exact parR_fmt h
  | false =>
    have e : fmtR rs = [] := by unfold fmtR; rw [h]; rfl
    rw [e]; rfl
theorem beq_b3 (b : Bool) : (b == b) = true := by cases b <;> rfl
theorem bne_b3 (b : Bool) : (b != b) = false := by cases b <;> rfl
theorem FnRelationAndFactFormat_calls (w : World) (A c) (xs : List Int) (hc : xs.length ≤ c) (hK : kBytes.C w A xs.length xs) (hg : ∀ x ∈ xs, 0 ≤ x ∧ x ≤ 255) : Calls Tryz.prog 6 #[.slice A xs.length c] w fun e w' => e = .returned (.bool true) ∧ On w w' := by
  have hK' := Aside0.mk hK
  have hc' := Aside0.mk hc
  clear hK hc hg
  by_cases hbig : 1048576 < (xs.length : Int)
  · have hbb := Aside0.mk (decide_eq_true hbig)
    clear hbig
    go_enter Tryz.func6, Tryz.ntmps6
    go_wp2_with (go_at_call 13; refine (big_calls w A xs.length c).mono ?_; rintro e w1 ⟨rfl, hb1⟩; rw [hbb.out])
    go_ret
    exact ⟨rfl, hb1⟩
  · have hbb := Aside0.mk (decide_eq_false hbig)
    clear hbig
    go_enter Tryz.func6, Tryz.ntmps6
    go_wp2_with (first | (go_at_call 13; refine (big_calls w A xs.length c).mono ?_; rintro e w1 ⟨rfl, hb1⟩; rw [hbb.out]) | (go_at_call 36; refine Stop.out ?_))
    refine ⟨(DrawFormatRelations_calls _ A c xs hc'.out (Kd.C_below hK'.out hb1)).mono ?_⟩
    rintro e w2 ⟨v, rfl, rs, hR, hb2⟩
    have hRl := Aside0.mk hR
    have hW := Aside0.mk (hb1.trans hb2)
    obtain ⟨L0, cL0, rfl, -⟩ := hR.out
    clear hR hb1 hb2
    go_wp2_with (go_at_call 38; refine Stop.out ?_)
    refine ⟨(ifrV _ _ rs hRl.out).mono ?_⟩
    rintro e w3 ⟨rfl, hb1⟩
    replace hW := Aside0.mk (hW.out.trans hb1)
    replace hRl := Aside0.mk (hRl.out.on hb1)
    clear hb1
    have hpr := Aside0.mk (iParseRelations_calls w3 (fmtR rs) (by have := fmtR_len rs; omega))
    rw [parR_of rs] at hpr
    have hfr := Aside0.mk (fun W v h => ifrV W v rs h)
    have hnil := Aside0.mk (show okRels rs = false → fmtR rs = [] from fun h => by unfold fmtR; rw [h]; rfl)
    obtain ⟨tl, htl⟩ : ∃ t, fmtR rs = t := ⟨_, rfl⟩
    obtain ⟨ra, hra⟩ : ∃ x, (if okRels rs = true then rs else []) = x := ⟨_, rfl⟩
    rw [htl] at hpr hfr hnil ⊢
    rw [hra] at hpr
    have hra' := Aside0.mk hra
    have htl' := Aside0.mk htl
    clear htl hra
    go_wp2_with (go_at_call 37; refine Stop.out ?_)
    refine ⟨(hpr.out).mono ?_⟩
    rintro e w4 ⟨_, rfl, v1, rfl, hO, hb1⟩
    have hRa := Aside0.mk (OR.rr hO)
    obtain ⟨Y0, cY0, rfl, -⟩ := hRa.out.out
    replace hW := Aside0.mk (hW.out.trans hb1)
    replace hRl := Aside0.mk (hRl.out.on hb1)
    clear hb1 hO hpr
    go_wp2_with (go_at_call 39; refine Stop.out ?_)
    refine ⟨(DrawParseRelations_calls _ A c xs hc'.out (Kd.C_below hK'.out hW.out)).mono ?_⟩
    rintro e w5 ⟨v, rfl, s, rfl, hsl, hb1⟩
    have hpt := Aside0.mk (parR_true s).1
    have hpi := Aside0.mk (fun W => iParseRelations_calls W s (by omega))
    have hps := Aside0.mk (fun W => sParseRelations_calls W s (by omega))
    obtain ⟨pz, hpz⟩ : ∃ p, parR s = p := ⟨_, rfl⟩
    rw [hpz] at hpt hpi hps
    clear hpz hsl
    obtain ⟨rb, tb⟩ := pz
    simp only at hpt
    replace hW := Aside0.mk (hW.out.trans hb1)
    replace hRl := Aside0.mk (hRl.out.on hb1)
    replace hRa := Aside0.mk (hRa.out.on hb1)
    clear hb1
    go_wp2_with (go_at_call 37; refine Stop.out ?_)
    refine ⟨(hpi.out _).mono ?_⟩
    rintro e w6 ⟨_, rfl, v1, rfl, hO, hb1⟩
    have hRb := Aside0.mk (OR.rr hO)
    obtain ⟨Z0, cZ0, rfl, -⟩ := hRb.out.out
    replace hW := Aside0.mk (hW.out.trans hb1)
    replace hRl := Aside0.mk (hRl.out.on hb1)
    replace hRa := Aside0.mk (hRa.out.on hb1)
    clear hb1 hO
    go_wp2_with (go_at_call 40; refine Stop.out ?_)
    refine ⟨(hps.out _).mono ?_⟩
    rintro e w7 ⟨_, rfl, v1, rfl, hO, hb1⟩
    obtain ⟨Q0, cQ0, rfl, -⟩ := (OR.rr hO).out
    replace hW := Aside0.mk (hW.out.trans hb1)
    replace hRl := Aside0.mk (hRl.out.on hb1)
    replace hRa := Aside0.mk (hRa.out.on hb1)
    replace hRb := Aside0.mk (hRb.out.on hb1)
    clear hb1 hO hpi hps
    have hi1 := Aside0.mk (fun W v h => sokV2 W v rs h)
    have hi2 := Aside0.mk (fun W v h => iokV2 W v rs h)
    have hok0 := Aside0.mk (show rs = [] → okRels rs = true from fun e => by rw [e]; rfl)
    obtain ⟨okl, hokl⟩ : ∃ b, okRels rs = b := ⟨_, rfl⟩
    rw [hokl] at hi1 hi2 hok0 hnil hra'
    clear hokl
    have hbn := bne_b3 tb
    go_upto_region 8 with fail
    go_cut [84] from 43 (fun s84 wx => s84 = .bool false ∧ On w wx ∧ RRl wx (.slice L0 rs.length cL0) rs ∧ RRl wx (.slice Y0 ra.length cY0) ra ∧ RRl wx (.slice Z0 rb.length cZ0) rb)
    case first =>
      by_cases he : rs = []
      · have hk : okl = true := hok0.out he
        have l1 : ((0 : Int) < (rs.length : Int)) = False := eq_false (by rw [he]; simp)
        have l2 : decide ((0 : Int) < (rs.length : Int)) = false := decide_eq_false (by rw [he]; simp)
        have l3 : decide (0 < rs.length) = false := decide_eq_false (by rw [he]; simp)
        have l4 : (rs = []) = True := eq_true he
        clear he
        cases tb with
        | true =>
          have htb := hpt.out rfl
          have hcm : ((strB (fmtR rb)).toList != (strB s).toList) = false := by rw [str_bne]; simp [htb]
          have hcn : ((strB (fmtR rb)).toList == (strB s).toList) = true := by rw [str_beq]; simp [htb]
          have hco : ((strB (fmtR rb)).toList = (strB s).toList) = True := eq_true (beq_iff_eq.1 hcn)
          clear htb
          go_wp2_with (go_at_call 41; refine Stop.out ?_)
          refine ⟨(hi1.out _ _ hRl.out).mono ?_⟩
          rintro e w8 ⟨rfl, hb1⟩
          replace hW := Aside0.mk (hW.out.trans hb1)
          replace hRl := Aside0.mk (hRl.out.on hb1)
          replace hRa := Aside0.mk (hRa.out.on hb1)
          replace hRb := Aside0.mk (hRb.out.on hb1)
          clear hb1
          go_wp2_with (go_at_call 38; refine Stop.out ?_)
          refine ⟨((fun W v h => (ifrV W v rb h)) _ _ hRb.out).mono ?_⟩
          rintro e w9 ⟨rfl, hb1⟩
          replace hW := Aside0.mk (hW.out.trans hb1)
          replace hRl := Aside0.mk (hRl.out.on hb1)
          replace hRa := Aside0.mk (hRa.out.on hb1)
          replace hRb := Aside0.mk (hRb.out.on hb1)
          clear hb1
          go_wp2
          go_meet
          exact ⟨rfl, hW.out, hRl.out, hRa.out, hRb.out⟩
        | false =>
          go_wp2_with (go_at_call 41; refine Stop.out ?_)
          refine ⟨(hi1.out _ _ hRl.out).mono ?_⟩
          rintro e w8 ⟨rfl, hb1⟩
          replace hW := Aside0.mk (hW.out.trans hb1)
          replace hRl := Aside0.mk (hRl.out.on hb1)
          replace hRa := Aside0.mk (hRa.out.on hb1)
          replace hRb := Aside0.mk (hRb.out.on hb1)
          clear hb1
          go_wp2
          go_meet
          exact ⟨rfl, hW.out, hRl.out, hRa.out, hRb.out⟩
      · have l1 : ((0 : Int) < (rs.length : Int)) = True := eq_true (by have := List.length_pos_iff.2 he; omega)
        have l2 : decide ((0 : Int) < (rs.length : Int)) = true := decide_eq_true (by have := List.length_pos_iff.2 he; omega)
        have l3 : decide (0 < rs.length) = true := decide_eq_true (List.length_pos_iff.2 he)
        have l4 : (rs = []) = False := eq_false he
        clear he
        rcases Bool.eq_false_or_eq_true okl with hk | hk
        · have hras : ra = rs := by have h := hra'.out; rw [hk] at h; simpa using h.symm
          have hrt : fmtR ra = tl := by rw [hras]; exact htl'.out
          have hdm : ((strB (fmtR ra)).toList != (strB tl).toList) = false := by rw [str_bne]; simp [hrt]
          have hdn : ((strB (fmtR ra)).toList == (strB tl).toList) = true := by rw [str_beq]; simp [hrt]
          have hdo : ((strB (fmtR ra)).toList = (strB tl).toList) = True := eq_true (beq_iff_eq.1 hdn)
          clear hrt hras
          cases tb with
          | true =>
            have htb := hpt.out rfl
            have hcm : ((strB (fmtR rb)).toList != (strB s).toList) = false := by rw [str_bne]; simp [htb]
            have hcn : ((strB (fmtR rb)).toList == (strB s).toList) = true := by rw [str_beq]; simp [htb]
            have hco : ((strB (fmtR rb)).toList = (strB s).toList) = True := eq_true (beq_iff_eq.1 hcn)
            clear htb
            go_wp2_with (go_at_call 41; refine Stop.out ?_)
            refine ⟨(hi1.out _ _ hRl.out).mono ?_⟩
            rintro e w8 ⟨rfl, hb1⟩
            replace hW := Aside0.mk (hW.out.trans hb1)
            replace hRl := Aside0.mk (hRl.out.on hb1)
            replace hRa := Aside0.mk (hRa.out.on hb1)
            replace hRb := Aside0.mk (hRb.out.on hb1)
            clear hb1
            go_wp2_with (go_at_call 41; refine Stop.out ?_)
            refine ⟨(hi1.out _ _ hRl.out).mono ?_⟩
            rintro e w9 ⟨rfl, hb1⟩
            replace hW := Aside0.mk (hW.out.trans hb1)
            replace hRl := Aside0.mk (hRl.out.on hb1)
            replace hRa := Aside0.mk (hRa.out.on hb1)
            replace hRb := Aside0.mk (hRb.out.on hb1)
            clear hb1
            go_wp2_with (go_at_call 38; refine Stop.out ?_)
            refine ⟨((fun W v h => (ifrV W v ra h)) _ _ hRa.out).mono ?_⟩
            rintro e w10 ⟨rfl, hb1⟩
            replace hW := Aside0.mk (hW.out.trans hb1)
            replace hRl := Aside0.mk (hRl.out.on hb1)
            replace hRa := Aside0.mk (hRa.out.on hb1)
            replace hRb := Aside0.mk (hRb.out.on hb1)
            clear hb1
            go_wp2_with (go_at_call 38; refine Stop.out ?_)
            refine ⟨(hfr.out _ _ hRl.out).mono ?_⟩
            rintro e w11 ⟨rfl, hb1⟩
            replace hW := Aside0.mk (hW.out.trans hb1)
            replace hRl := Aside0.mk (hRl.out.on hb1)
            replace hRa := Aside0.mk (hRa.out.on hb1)
            replace hRb := Aside0.mk (hRb.out.on hb1)
            clear hb1
            go_wp2_with (go_at_call 38; refine Stop.out ?_)
            refine ⟨((fun W v h => (ifrV W v rb h)) _ _ hRb.out).mono ?_⟩
            rintro e w12 ⟨rfl, hb1⟩
            replace hW := Aside0.mk (hW.out.trans hb1)
            replace hRl := Aside0.mk (hRl.out.on hb1)
            replace hRa := Aside0.mk (hRa.out.on hb1)
            replace hRb := Aside0.mk (hRb.out.on hb1)
            clear hb1
            go_wp2
            go_meet
            exact ⟨rfl, hW.out, hRl.out, hRa.out, hRb.out⟩
          | false =>
            go_wp2_with (go_at_call 41; refine Stop.out ?_)
            refine ⟨(hi1.out _ _ hRl.out).mono ?_⟩
            rintro e w8 ⟨rfl, hb1⟩
            replace hW := Aside0.mk (hW.out.trans hb1)
            replace hRl := Aside0.mk (hRl.out.on hb1)
            replace hRa := Aside0.mk (hRa.out.on hb1)
            replace hRb := Aside0.mk (hRb.out.on hb1)
            clear hb1
            go_wp2_with (go_at_call 41; refine Stop.out ?_)
            refine ⟨(hi1.out _ _ hRl.out).mono ?_⟩
            rintro e w9 ⟨rfl, hb1⟩
            replace hW := Aside0.mk (hW.out.trans hb1)
            replace hRl := Aside0.mk (hRl.out.on hb1)
            replace hRa := Aside0.mk (hRa.out.on hb1)
            replace hRb := Aside0.mk (hRb.out.on hb1)
            clear hb1
            go_wp2_with (go_at_call 38; refine Stop.out ?_)
            refine ⟨((fun W v h => (ifrV W v ra h)) _ _ hRa.out).mono ?_⟩
            rintro e w10 ⟨rfl, hb1⟩
            replace hW := Aside0.mk (hW.out.trans hb1)
            replace hRl := Aside0.mk (hRl.out.on hb1)
            replace hRa := Aside0.mk (hRa.out.on hb1)
            replace hRb := Aside0.mk (hRb.out.on hb1)
            clear hb1
            go_wp2_with (go_at_call 38; refine Stop.out ?_)
            refine ⟨(hfr.out _ _ hRl.out).mono ?_⟩
            rintro e w11 ⟨rfl, hb1⟩
            replace hW := Aside0.mk (hW.out.trans hb1)
            replace hRl := Aside0.mk (hRl.out.on hb1)
            replace hRa := Aside0.mk (hRa.out.on hb1)
            replace hRb := Aside0.mk (hRb.out.on hb1)
            clear hb1
            go_wp2
            go_meet
            exact ⟨rfl, hW.out, hRl.out, hRa.out, hRb.out⟩
        · have hnl := hnil.out hk
          have hdm : ((strB tl).toList != ([] : List UInt8)) = false := by rw [str_nnil]; simp [hnl]
          have hdn : ((strB tl).toList == ([] : List UInt8)) = true := by rw [str_nil]; simp [hnl]
          have hdo : ((strB tl).toList = ([] : List UInt8)) = True := eq_true (beq_iff_eq.1 hdn)
          clear hnl
          cases tb with
          | true =>
            have htb := hpt.out rfl
            have hcm : ((strB (fmtR rb)).toList != (strB s).toList) = false := by rw [str_bne]; simp [htb]
            have hcn : ((strB (fmtR rb)).toList == (strB s).toList) = true := by rw [str_beq]; simp [htb]
            have hco : ((strB (fmtR rb)).toList = (strB s).toList) = True := eq_true (beq_iff_eq.1 hcn)
            clear htb
            go_wp2_with (go_at_call 41; refine Stop.out ?_)
            refine ⟨(hi1.out _ _ hRl.out).mono ?_⟩
            rintro e w8 ⟨rfl, hb1⟩
            replace hW := Aside0.mk (hW.out.trans hb1)
            replace hRl := Aside0.mk (hRl.out.on hb1)
            replace hRa := Aside0.mk (hRa.out.on hb1)
            replace hRb := Aside0.mk (hRb.out.on hb1)
            clear hb1
            go_wp2_with (go_at_call 38; refine Stop.out ?_)
            refine ⟨(hfr.out _ _ hRl.out).mono ?_⟩
            rintro e w9 ⟨rfl, hb1⟩
            replace hW := Aside0.mk (hW.out.trans hb1)
            replace hRl := Aside0.mk (hRl.out.on hb1)
            replace hRa := Aside0.mk (hRa.out.on hb1)
            replace hRb := Aside0.mk (hRb.out.on hb1)
            clear hb1
            go_wp2_with (go_at_call 41; refine Stop.out ?_)
            refine ⟨(hi1.out _ _ hRl.out).mono ?_⟩
            rintro e w10 ⟨rfl, hb1⟩
            replace hW := Aside0.mk (hW.out.trans hb1)
            replace hRl := Aside0.mk (hRl.out.on hb1)
            replace hRa := Aside0.mk (hRa.out.on hb1)
            replace hRb := Aside0.mk (hRb.out.on hb1)
            clear hb1
            go_wp2_with (go_at_call 38; refine Stop.out ?_)
            refine ⟨((fun W v h => (ifrV W v rb h)) _ _ hRb.out).mono ?_⟩
            rintro e w11 ⟨rfl, hb1⟩
            replace hW := Aside0.mk (hW.out.trans hb1)
            replace hRl := Aside0.mk (hRl.out.on hb1)
            replace hRa := Aside0.mk (hRa.out.on hb1)
            replace hRb := Aside0.mk (hRb.out.on hb1)
            clear hb1
            go_wp2
            go_meet
            exact ⟨rfl, hW.out, hRl.out, hRa.out, hRb.out⟩
          | false =>
            go_wp2_with (go_at_call 41; refine Stop.out ?_)
            refine ⟨(hi1.out _ _ hRl.out).mono ?_⟩
            rintro e w8 ⟨rfl, hb1⟩
            replace hW := Aside0.mk (hW.out.trans hb1)
            replace hRl := Aside0.mk (hRl.out.on hb1)
            replace hRa := Aside0.mk (hRa.out.on hb1)
            replace hRb := Aside0.mk (hRb.out.on hb1)
            clear hb1
            go_wp2_with (go_at_call 38; refine Stop.out ?_)
            refine ⟨(hfr.out _ _ hRl.out).mono ?_⟩
            rintro e w9 ⟨rfl, hb1⟩
            replace hW := Aside0.mk (hW.out.trans hb1)
            replace hRl := Aside0.mk (hRl.out.on hb1)
            replace hRa := Aside0.mk (hRa.out.on hb1)
            replace hRb := Aside0.mk (hRb.out.on hb1)
            clear hb1
            go_wp2_with (go_at_call 41; refine Stop.out ?_)
            refine ⟨(hi1.out _ _ hRl.out).mono ?_⟩
            rintro e w10 ⟨rfl, hb1⟩
            replace hW := Aside0.mk (hW.out.trans hb1)
            replace hRl := Aside0.mk (hRl.out.on hb1)
            replace hRa := Aside0.mk (hRa.out.on hb1)
            replace hRb := Aside0.mk (hRb.out.on hb1)
            clear hb1
            go_wp2
            go_meet
            exact ⟨rfl, hW.out, hRl.out, hRa.out, hRb.out⟩
    case rest =>
      obtain ⟨rfl, hW1, hRl1, hRa1, hRb1⟩ := hcut
      replace hW := Aside0.mk hW1
      replace hRl := Aside0.mk hRl1
      replace hRa := Aside0.mk hRa1
      replace hRb := Aside0.mk hRb1
      clear hW1 hRl1 hRa1 hRb1
      go_wp2_with (go_at_call 42; refine Stop.out ?_)
      refine ⟨(DrawFormatFact_calls _ A c xs hc'.out (Kd.C_below hK'.out hW.out)).mono ?_⟩
      rintro e w40 ⟨_, rfl, v1, v2, f, rfl, hM, hF, hb1⟩
      have hRm := Aside0.mk hM
      have hFf := Aside0.mk hF
      obtain ⟨M0, cM0, rfl, -⟩ := hM.out
      obtain ⟨rF, F0, nF0, cF0, rfl⟩ := hF.shape
      replace hW := Aside0.mk (hW.out.trans hb1)
      replace hRl := Aside0.mk (hRl.out.on hb1)
      replace hRa := Aside0.mk (hRa.out.on hb1)
      replace hRb := Aside0.mk (hRb.out.on hb1)
      clear hb1 hM hF
      have hfill := alloc_fill w40
      have kk := Aside0.mk (loc_new w40 #[.int .i64 rF, .slice F0 nF0 cF0] 60)
      have hbb := Aside0.mk (On.alloc (On.refl w40) (.cells #[.int .i64 rF, .slice F0 nF0 cF0] 60 (0, 0)))
      have ckk := blk_cell kk.out
      go_wp2_with (go_at_call 44; refine Stop.out ?_)
      clear ckk hfill
      obtain ⟨w40x, hx⟩ : ∃ x, w40.alloc (.cells #[.int .i64 rF, .slice F0 nF0 cF0] 60 (0, 0)) = x := ⟨_, rfl⟩
      rw [hx] at kk hbb ⊢
      clear hx
      replace hW := Aside0.mk (hW.out.trans hbb.out)
      replace hRl := Aside0.mk (hRl.out.on hbb.out)
      replace hRa := Aside0.mk (hRa.out.on hbb.out)
      replace hRb := Aside0.mk (hRb.out.on hbb.out)
      replace hRm := Aside0.mk (hRm.out.on hbb.out)
      replace hFf := Aside0.mk (hFf.out.on hbb.out)
      have kF := kk
      clear kk hbb
      refine ⟨(iffV _ _ _ sigs f hRm.out hFf.out).mono ?_⟩
      rintro e w41 ⟨rfl, hb1⟩
      replace hW := Aside0.mk (hW.out.trans hb1)
      replace hRl := Aside0.mk (hRl.out.on hb1)
      replace hRa := Aside0.mk (hRa.out.on hb1)
      replace hRb := Aside0.mk (hRb.out.on hb1)
      replace hRm := Aside0.mk (hRm.out.on hb1)
      replace hFf := Aside0.mk (hFf.out.on hb1)
      replace kF := Aside0.mk (blk_below kF.out hb1)
      clear hb1
      have hpf := Aside0.mk (iPFV w41 (.slice M0 sigs.length cM0) sigs (fmtF sigs f) hRm.out.out (by have := fmtF_len sigs f; omega))
      have hof := Aside0.mk (parF_of sigs f)
      have hv1 := Aside0.mk (fun W v u h k => svfV W v u sigs f h k)
      have hv2 := Aside0.mk (fun W v u h k => ivfV W v u sigs f h k)
      obtain ⟨okf, hokf⟩ : ∃ b, okFact sigs f = b := ⟨_, rfl⟩
      obtain ⟨pg, hpg⟩ : ∃ p, parF sigs (fmtF sigs f) = p := ⟨_, rfl⟩
      rw [hpg] at hpf hof
      rw [hokf] at hof hv1 hv2
      obtain ⟨tf, htf⟩ : ∃ t, fmtF sigs f = t := ⟨_, rfl⟩
      rw [htf] at hpf ⊢
      clear hokf hpg htf
      obtain ⟨fg, gb⟩ := pg
      go_wp2_with (go_at_call 43; refine Stop.out ?_)
      refine ⟨(hpf.out).mono ?_⟩
      rintro e w42 ⟨_, rfl, v1, rfl, hO, hb1⟩
      have hFg := Aside0.mk hO.read
      obtain ⟨rG, G0, nG0, cG0, rfl⟩ := hFg.out.shape
      replace hW := Aside0.mk (hW.out.trans hb1)
      replace hRl := Aside0.mk (hRl.out.on hb1)
      replace hRa := Aside0.mk (hRa.out.on hb1)
      replace hRb := Aside0.mk (hRb.out.on hb1)
      replace hRm := Aside0.mk (hRm.out.on hb1)
      replace hFf := Aside0.mk (hFf.out.on hb1)
      replace kF := Aside0.mk (blk_below kF.out hb1)
      clear hb1 hO hpf
      have hfill := alloc_fill w42
      have kk := Aside0.mk (loc_new w42 #[.int .i64 rG, .slice G0 nG0 cG0] 60)
      have hbb := Aside0.mk (On.alloc (On.refl w42) (.cells #[.int .i64 rG, .slice G0 nG0 cG0] 60 (0, 0)))
      have ckk := blk_cell kk.out
      go_wp2_with (go_at_call 45; refine Stop.out ?_)
      clear ckk hfill
      obtain ⟨w42x, hx⟩ : ∃ x, w42.alloc (.cells #[.int .i64 rG, .slice G0 nG0 cG0] 60 (0, 0)) = x := ⟨_, rfl⟩
      rw [hx] at kk hbb ⊢
      clear hx
      replace hW := Aside0.mk (hW.out.trans hbb.out)
      replace hRl := Aside0.mk (hRl.out.on hbb.out)
      replace hRa := Aside0.mk (hRa.out.on hbb.out)
      replace hRb := Aside0.mk (hRb.out.on hbb.out)
      replace hRm := Aside0.mk (hRm.out.on hbb.out)
      replace hFf := Aside0.mk (hFf.out.on hbb.out)
      replace kF := Aside0.mk (blk_below kF.out hbb.out)
      replace hFg := Aside0.mk (hFg.out.on hbb.out)
      have kG := kk
      clear kk hbb
      refine ⟨(DrawParseFact_calls _ A c xs hc'.out (Kd.C_below hK'.out hW.out)).mono ?_⟩
      rintro e w43 ⟨_, rfl, v1, tt, rfl, hN, htl2, hb1⟩
      have hRn := Aside0.mk hN
      obtain ⟨N0, cN0, rfl, -⟩ := hN.out
      have hqt := Aside0.mk (parF_true (rs := sigs) (s := tt)).1
      have hpi := Aside0.mk (fun W h => iPFV W (.slice N0 sigs.length cN0) sigs tt h (by omega))
      have hps := Aside0.mk (fun W h => sPFV W (.slice N0 sigs.length cN0) sigs tt h (by omega))
      obtain ⟨ph, hph⟩ : ∃ p, parF sigs tt = p := ⟨_, rfl⟩
      rw [hph] at hqt hpi hps
      clear hph htl2
      obtain ⟨fh, bh⟩ := ph
      simp only at hqt
      replace hW := Aside0.mk (hW.out.trans hb1)
      replace hRl := Aside0.mk (hRl.out.on hb1)
      replace hRa := Aside0.mk (hRa.out.on hb1)
      replace hRb := Aside0.mk (hRb.out.on hb1)
      replace hRm := Aside0.mk (hRm.out.on hb1)
      replace hFf := Aside0.mk (hFf.out.on hb1)
      replace kF := Aside0.mk (blk_below kF.out hb1)
      replace hFg := Aside0.mk (hFg.out.on hb1)
      replace kG := Aside0.mk (blk_below kG.out hb1)
      clear hb1 hN
      go_wp2_with (go_at_call 43; refine Stop.out ?_)
      refine ⟨(hpi.out _ hRn.out.out).mono ?_⟩
      rintro e w44 ⟨_, rfl, v1, rfl, hO, hb1⟩
      have hFh := Aside0.mk hO.read
      obtain ⟨rH, H0, nH0, cH0, rfl⟩ := hFh.out.shape
      replace hW := Aside0.mk (hW.out.trans hb1)
      replace hRl := Aside0.mk (hRl.out.on hb1)
      replace hRa := Aside0.mk (hRa.out.on hb1)
      replace hRb := Aside0.mk (hRb.out.on hb1)
      replace hRm := Aside0.mk (hRm.out.on hb1)
      replace hFf := Aside0.mk (hFf.out.on hb1)
      replace kF := Aside0.mk (blk_below kF.out hb1)
      replace hFg := Aside0.mk (hFg.out.on hb1)
      replace kG := Aside0.mk (blk_below kG.out hb1)
      replace hRn := Aside0.mk (hRn.out.on hb1)
      clear hb1 hO
      have hfill := alloc_fill w44
      have kk := Aside0.mk (loc_new w44 #[.int .i64 rH, .slice H0 nH0 cH0] 60)
      have hbb := Aside0.mk (On.alloc (On.refl w44) (.cells #[.int .i64 rH, .slice H0 nH0 cH0] 60 (0, 0)))
      have ckk := blk_cell kk.out
      go_wp2_with (go_at_call 46; refine Stop.out ?_)
      clear ckk hfill
      obtain ⟨w44x, hx⟩ : ∃ x, w44.alloc (.cells #[.int .i64 rH, .slice H0 nH0 cH0] 60 (0, 0)) = x := ⟨_, rfl⟩
      rw [hx] at kk hbb ⊢
      clear hx
      replace hW := Aside0.mk (hW.out.trans hbb.out)
      replace hRl := Aside0.mk (hRl.out.on hbb.out)
      replace hRa := Aside0.mk (hRa.out.on hbb.out)
      replace hRb := Aside0.mk (hRb.out.on hbb.out)
      replace hRm := Aside0.mk (hRm.out.on hbb.out)
      replace hFf := Aside0.mk (hFf.out.on hbb.out)
      replace kF := Aside0.mk (blk_below kF.out hbb.out)
      replace hFg := Aside0.mk (hFg.out.on hbb.out)
      replace kG := Aside0.mk (blk_below kG.out hbb.out)
      replace hRn := Aside0.mk (hRn.out.on hbb.out)
      replace hFh := Aside0.mk (hFh.out.on hbb.out)
      have kH := kk
      clear kk hbb
      refine ⟨(hps.out _ hRn.out.out).mono ?_⟩
      rintro e w45 ⟨_, rfl, v1, rfl, hO, hb1⟩
      obtain ⟨rJ, J0, nJ0, cJ0, rfl⟩ := hO.read.shape
      replace hW := Aside0.mk (hW.out.trans hb1)
      replace hRl := Aside0.mk (hRl.out.on hb1)
      replace hRa := Aside0.mk (hRa.out.on hb1)
      replace hRb := Aside0.mk (hRb.out.on hb1)
      replace hRm := Aside0.mk (hRm.out.on hb1)
      replace hFf := Aside0.mk (hFf.out.on hb1)
      replace kF := Aside0.mk (blk_below kF.out hb1)
      replace hFg := Aside0.mk (hFg.out.on hb1)
      replace kG := Aside0.mk (blk_below kG.out hb1)
      replace hRn := Aside0.mk (hRn.out.on hb1)
      replace hFh := Aside0.mk (hFh.out.on hb1)
      replace kH := Aside0.mk (blk_below kH.out hb1)
      clear hb1 hO hpi hps
      have hfill := alloc_fill w45
      have ck0 := blk_cell (blk_below kF.out (On.alloc (On.refl w45) (.cells #[.int .i64 rJ, .slice J0 nJ0 cJ0] 60 (0, 0))))
      have ck1 := blk_cell (blk_below kG.out (On.alloc (On.refl w45) (.cells #[.int .i64 rJ, .slice J0 nJ0 cJ0] 60 (0, 0))))
      have ck2 := blk_cell (blk_below kH.out (On.alloc (On.refl w45) (.cells #[.int .i64 rJ, .slice J0 nJ0 cJ0] 60 (0, 0))))
      have hJ := Aside0.mk (On.alloc (On.refl w45) (.cells #[.int .i64 rJ, .slice J0 nJ0 cJ0] 60 (0, 0)))
      have hq1 := beq_b3 okf
      have hq2 := beq_b3 bh
      have hq3 := beq_b3 okl
      rcases hof.out with ⟨rfl, hyy⟩ | ⟨rfl, hyy⟩
      · obtain ⟨rfl, rfl⟩ : fg = f ∧ gb = true := by simpa using hyy
        clear hyy hof
        cases bh with
        | true =>
          have hzf := (hqt.out rfl).2
          have hbm : ((strB (fmtF sigs fh)).toList == (strB tt).toList) = true := by rw [str_beq]; simp [hzf]
          have hbo : ((strB (fmtF sigs fh)).toList = (strB tt).toList) = True := eq_true (beq_iff_eq.1 hbm)
          clear hzf
          go_wp2
          clear hfill
          refine Reg.region [(0,.L),(1,.L),(2,.L),(3,.C),(4,.L),(5,.L),(6,.L),(7,.L),(8,.L),(9,.L),(10,.L),(11,.C),(12,.L),(13,.L),(14,.L),(15,.L),(16,.L),(17,.L),(18,.L),(19,.L),(20,.L),(21,.L),(22,.L),(23,.L),(24,.L),(25,.L),(26,.C),(27,.L),(28,.L),(29,.L),(30,.L),(31,.L),(32,.L),(33,.C),(34,.L),(35,.C),(36,.L),(37,.L),(38,.L),(39,.L),(40,.L),(41,.C),(42,.L),(43,.L),(44,.C),(45,.L),(46,.L)] [47] (by kernel_rfl) (by kernel_rfl) ?_
          repeat first | refine sP ?_ | refine sS ?_ | refine sA ?_ | refine sL ?_ | refine sQ ?_ | refine sO ?_
          refine callC (.bool true) Tryz.func47 (fun w' hS => ?_) ?_
          focus exact hv1.out w' _ _ (hRm.out.on (hJ.out.trans hS)) (hFf.out.on (hJ.out.trans hS))
          repeat first | refine sP ?_ | refine sS ?_ | refine sA ?_ | refine sL ?_ | refine sQ ?_ | refine sO ?_
          refine callC (.int .i64 0) Tryz.func48 (fun w' hS => ?_) ?_
          focus exact icmV w' _ _ _ (hFg.out.on (hJ.out.trans hS)) (hFf.out.on (hJ.out.trans hS))
          repeat first | refine sP ?_ | refine sS ?_ | refine sA ?_ | refine sL ?_ | refine sQ ?_ | refine sO ?_
          refine callC (.string (strB (fmtF sigs fh))) Tryz.func44 (fun w' hS => ?_) ?_
          focus exact iffV w' _ _ sigs fh (hRn.out.on (hJ.out.trans hS)) (hFh.out.on (hJ.out.trans hS))
          repeat first | refine sP ?_ | refine sS ?_ | refine sA ?_ | refine sL ?_ | refine sQ ?_ | refine sO ?_
          refine callC (.bool okl) Tryz.func49 (fun w' hS => ?_) ?_
          focus exact hi2.out w' _ (hRl.out.on (hJ.out.trans hS))
          repeat first | refine sP ?_ | refine sS ?_ | refine sA ?_ | refine sL ?_ | refine sQ ?_ | refine sO ?_
          refine callC (.bool okl) Tryz.func41 (fun w' hS => ?_) ?_
          focus exact hi1.out w' _ (hRl.out.on (hJ.out.trans hS))
          repeat first | refine sP ?_ | refine sS ?_ | refine sA ?_ | refine sL ?_ | refine sQ ?_ | refine sO ?_
          refine callC (.bool true) Tryz.func50 (fun w' hS => ?_) ?_
          focus exact hv2.out w' _ _ (hRm.out.on (hJ.out.trans hS)) (hFf.out.on (hJ.out.trans hS))
          repeat first | refine sP ?_ | refine sS ?_ | refine sA ?_ | refine sL ?_ | refine sQ ?_ | refine sO ?_
          refine callC (.bool true) Tryz.func47 (fun w' hS => ?_) ?_
          focus exact hv1.out w' _ _ (hRm.out.on (hJ.out.trans hS)) (hFf.out.on (hJ.out.trans hS))
          repeat first | refine sP ?_ | refine sS ?_ | refine sA ?_ | refine sL ?_ | refine sQ ?_ | refine sO ?_
          refine Reg.tail_ fun wz hS => ?_
          have hWz := Aside0.mk (hW.out.trans (hJ.out.trans hS))
          clear hS
          go_wp2
          go_ret
          exact ⟨rfl, hWz.out⟩
        | false =>
          go_wp2
          clear hfill
          refine Reg.region [(0,.L),(1,.L),(2,.L),(3,.C),(4,.L),(5,.L),(6,.L),(7,.L),(8,.L),(9,.L),(10,.L),(11,.C),(12,.L),(13,.L),(14,.L),(15,.L),(16,.L),(17,.L),(18,.L),(19,.L),(20,.L),(21,.L),(22,.L),(23,.L),(24,.L),(25,.L),(26,.C),(27,.L),(28,.L),(29,.L),(30,.L),(31,.L),(32,.L),(33,.C),(34,.L),(35,.C),(36,.L),(37,.L),(38,.L),(39,.L),(40,.L),(41,.C),(42,.L),(43,.L),(44,.C),(45,.L),(46,.L)] [47] (by kernel_rfl) (by kernel_rfl) ?_
          repeat first | refine sP ?_ | refine sS ?_ | refine sA ?_ | refine sL ?_ | refine sQ ?_ | refine sO ?_
          refine callC (.bool true) Tryz.func47 (fun w' hS => ?_) ?_
          focus exact hv1.out w' _ _ (hRm.out.on (hJ.out.trans hS)) (hFf.out.on (hJ.out.trans hS))
          repeat first | refine sP ?_ | refine sS ?_ | refine sA ?_ | refine sL ?_ | refine sQ ?_ | refine sO ?_
          refine callC (.int .i64 0) Tryz.func48 (fun w' hS => ?_) ?_
          focus exact icmV w' _ _ _ (hFg.out.on (hJ.out.trans hS)) (hFf.out.on (hJ.out.trans hS))
          repeat first | refine sP ?_ | refine sS ?_ | refine sA ?_ | refine sL ?_ | refine sQ ?_ | refine sO ?_
          refine callC (.bool okl) Tryz.func49 (fun w' hS => ?_) ?_
          focus exact hi2.out w' _ (hRl.out.on (hJ.out.trans hS))
          repeat first | refine sP ?_ | refine sS ?_ | refine sA ?_ | refine sL ?_ | refine sQ ?_ | refine sO ?_
          refine callC (.bool okl) Tryz.func41 (fun w' hS => ?_) ?_
          focus exact hi1.out w' _ (hRl.out.on (hJ.out.trans hS))
          repeat first | refine sP ?_ | refine sS ?_ | refine sA ?_ | refine sL ?_ | refine sQ ?_ | refine sO ?_
          refine callC (.bool true) Tryz.func50 (fun w' hS => ?_) ?_
          focus exact hv2.out w' _ _ (hRm.out.on (hJ.out.trans hS)) (hFf.out.on (hJ.out.trans hS))
          repeat first | refine sP ?_ | refine sS ?_ | refine sA ?_ | refine sL ?_ | refine sQ ?_ | refine sO ?_
          refine callC (.bool true) Tryz.func47 (fun w' hS => ?_) ?_
          focus exact hv1.out w' _ _ (hRm.out.on (hJ.out.trans hS)) (hFf.out.on (hJ.out.trans hS))
          repeat first | refine sP ?_ | refine sS ?_ | refine sA ?_ | refine sL ?_ | refine sQ ?_ | refine sO ?_
          refine Reg.tail_ fun wz hS => ?_
          have hWz := Aside0.mk (hW.out.trans (hJ.out.trans hS))
          clear hS
          go_wp2
          go_ret
          exact ⟨rfl, hWz.out⟩
      · obtain ⟨rfl, rfl⟩ : fg = (0, []) ∧ gb = false := by simpa using hyy
        clear hyy hof
        cases bh with
        | true =>
          have hzf := (hqt.out rfl).2
          have hbm : ((strB (fmtF sigs fh)).toList == (strB tt).toList) = true := by rw [str_beq]; simp [hzf]
          have hbo : ((strB (fmtF sigs fh)).toList = (strB tt).toList) = True := eq_true (beq_iff_eq.1 hbm)
          clear hzf
          go_wp2
          clear hfill
          refine Reg.region [(0,.L),(1,.L),(2,.L),(3,.C),(4,.L),(5,.L),(6,.L),(7,.L),(8,.L),(9,.L),(10,.L),(11,.C),(12,.L),(13,.L),(14,.L),(15,.L),(16,.L),(17,.L),(18,.L),(19,.L),(20,.L),(21,.L),(22,.L),(23,.L),(24,.L),(25,.L),(26,.C),(27,.L),(28,.L),(29,.L),(30,.L),(31,.L),(32,.L),(33,.C),(34,.L),(35,.C),(36,.L),(37,.L),(38,.L),(39,.L),(40,.L),(41,.C),(42,.L),(43,.L),(44,.C),(45,.L),(46,.L)] [47] (by kernel_rfl) (by kernel_rfl) ?_
          repeat first | refine sP ?_ | refine sS ?_ | refine sA ?_ | refine sL ?_ | refine sQ ?_ | refine sO ?_
          refine callC (.bool false) Tryz.func47 (fun w' hS => ?_) ?_
          focus exact hv1.out w' _ _ (hRm.out.on (hJ.out.trans hS)) (hFf.out.on (hJ.out.trans hS))
          repeat first | refine sP ?_ | refine sS ?_ | refine sA ?_ | refine sL ?_ | refine sQ ?_ | refine sO ?_
          refine callC (.string (strB (fmtF sigs fh))) Tryz.func44 (fun w' hS => ?_) ?_
          focus exact iffV w' _ _ sigs fh (hRn.out.on (hJ.out.trans hS)) (hFh.out.on (hJ.out.trans hS))
          repeat first | refine sP ?_ | refine sS ?_ | refine sA ?_ | refine sL ?_ | refine sQ ?_ | refine sO ?_
          refine callC (.bool okl) Tryz.func49 (fun w' hS => ?_) ?_
          focus exact hi2.out w' _ (hRl.out.on (hJ.out.trans hS))
          repeat first | refine sP ?_ | refine sS ?_ | refine sA ?_ | refine sL ?_ | refine sQ ?_ | refine sO ?_
          refine callC (.bool okl) Tryz.func41 (fun w' hS => ?_) ?_
          focus exact hi1.out w' _ (hRl.out.on (hJ.out.trans hS))
          repeat first | refine sP ?_ | refine sS ?_ | refine sA ?_ | refine sL ?_ | refine sQ ?_ | refine sO ?_
          refine callC (.bool false) Tryz.func50 (fun w' hS => ?_) ?_
          focus exact hv2.out w' _ _ (hRm.out.on (hJ.out.trans hS)) (hFf.out.on (hJ.out.trans hS))
          repeat first | refine sP ?_ | refine sS ?_ | refine sA ?_ | refine sL ?_ | refine sQ ?_ | refine sO ?_
          refine callC (.bool false) Tryz.func47 (fun w' hS => ?_) ?_
          focus exact hv1.out w' _ _ (hRm.out.on (hJ.out.trans hS)) (hFf.out.on (hJ.out.trans hS))
          repeat first | refine sP ?_ | refine sS ?_ | refine sA ?_ | refine sL ?_ | refine sQ ?_ | refine sO ?_
          refine Reg.tail_ fun wz hS => ?_
          have hWz := Aside0.mk (hW.out.trans (hJ.out.trans hS))
          clear hS
          go_wp2
          go_ret
          exact ⟨rfl, hWz.out⟩
        | false =>
          go_wp2
          clear hfill
          refine Reg.region [(0,.L),(1,.L),(2,.L),(3,.C),(4,.L),(5,.L),(6,.L),(7,.L),(8,.L),(9,.L),(10,.L),(11,.C),(12,.L),(13,.L),(14,.L),(15,.L),(16,.L),(17,.L),(18,.L),(19,.L),(20,.L),(21,.L),(22,.L),(23,.L),(24,.L),(25,.L),(26,.C),(27,.L),(28,.L),(29,.L),(30,.L),(31,.L),(32,.L),(33,.C),(34,.L),(35,.C),(36,.L),(37,.L),(38,.L),(39,.L),(40,.L),(41,.C),(42,.L),(43,.L),(44,.C),(45,.L),(46,.L)] [47] (by kernel_rfl) (by kernel_rfl) ?_
          repeat first | refine sP ?_ | refine sS ?_ | refine sA ?_ | refine sL ?_ | refine sQ ?_ | refine sO ?_
          refine callC (.bool false) Tryz.func47 (fun w' hS => ?_) ?_
          focus exact hv1.out w' _ _ (hRm.out.on (hJ.out.trans hS)) (hFf.out.on (hJ.out.trans hS))
          repeat first | refine sP ?_ | refine sS ?_ | refine sA ?_ | refine sL ?_ | refine sQ ?_ | refine sO ?_
          refine callC (.bool okl) Tryz.func49 (fun w' hS => ?_) ?_
          focus exact hi2.out w' _ (hRl.out.on (hJ.out.trans hS))
          repeat first | refine sP ?_ | refine sS ?_ | refine sA ?_ | refine sL ?_ | refine sQ ?_ | refine sO ?_
          refine callC (.bool okl) Tryz.func41 (fun w' hS => ?_) ?_
          focus exact hi1.out w' _ (hRl.out.on (hJ.out.trans hS))
          repeat first | refine sP ?_ | refine sS ?_ | refine sA ?_ | refine sL ?_ | refine sQ ?_ | refine sO ?_
          refine callC (.bool false) Tryz.func50 (fun w' hS => ?_) ?_
          focus exact hv2.out w' _ _ (hRm.out.on (hJ.out.trans hS)) (hFf.out.on (hJ.out.trans hS))
          repeat first | refine sP ?_ | refine sS ?_ | refine sA ?_ | refine sL ?_ | refine sQ ?_ | refine sO ?_
          refine callC (.bool false) Tryz.func47 (fun w' hS => ?_) ?_
          focus exact hv1.out w' _ _ (hRm.out.on (hJ.out.trans hS)) (hFf.out.on (hJ.out.trans hS))
          repeat first | refine sP ?_ | refine sS ?_ | refine sA ?_ | refine sL ?_ | refine sQ ?_ | refine sO ?_
          refine Reg.tail_ fun wz hS => ?_
          have hWz := Aside0.mk (hW.out.trans (hJ.out.trans hS))
          clear hS
          go_wp2
          go_ret
          exact ⟨rfl, hWz.out⟩
end Go.Proofs.YtgemaohdlibboaaGreatDoor.H
