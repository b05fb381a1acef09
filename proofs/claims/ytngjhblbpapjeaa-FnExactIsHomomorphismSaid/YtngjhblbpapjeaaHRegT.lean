/- The rule for regions that draw their order, where two operations that make memory may come up at once. No condition. -/
import Derived.Test.YtngjhblbpapjeaaHO2
namespace Go.Proofs.Ytngjhblbpapjeaa.Reg
open Go Go.RowKit
variable {P : Program} {ops : Array Oper} {Q : Exit → Act → World → Prop} {md : Region.Mode}
/-! Two operations that make memory may come up at once: both ways are walked. -/
inductive Tr where
  | leaf (l : List (Nat × K))
  | s (i : Nat) (k : K) (p : Tr)
  | two (i j : Nat) (p q : Tr)
def Tr.len : Tr → Nat
  | .leaf l => l.length
  | .s _ _ p => p.len + 1
  | .two _ _ p _ => p.len + 1
def chkTr (md : Region.Mode) (ops : Array Oper) (tail : List Nat) : Tr → Array Bool → Bool
  | .leaf l, listed => chk md ops tail l listed
  | .s i k p, listed =>
    (match k with
      | .L => (Region.ready md ops listed).contains i && freeC md ops false listed i && tail.all fun j => reach md ops j i
      | .C => (Region.ready md ops listed).contains i && freeC md ops true listed i && tail.all fun j => reach md ops j i
      | .N => Region.ready md ops listed == [i] && busy ops i && !tail.contains i
      | .P => (Region.ready md ops listed).contains i && freeC md ops false listed i)
    && chkTr md ops tail p (listed.setIfInBounds i true)
  | .two i j p q, listed => Region.ready md ops listed == [i, j] && busy ops i && busy ops j && p.len == q.len && chkTr md ops tail p (listed.setIfInBounds i true) && chkTr md ops tail q (listed.setIfInBounds j true)
def wpTr (P : Program) (ops : Array Oper) (Q : Exit → Act → World → Prop) (tail : List Nat) : Tr → Act → World → Prop
  | .leaf l, a, W => wpOrd P ops Q tail l a W
  | .s i k p, a, W =>
    match ops[i]? with
    | none => False
    | some o =>
      if Region.wanted o (yielded ops a.tmps) then
        (match k with
          | .L => ∃ v, (∀ w, On W w → (execOp a.eval o).run P w = .ok (.value v) w) ∧ wpTr P ops Q tail p (a.put o.dst v) W
          | .C => ∃ v, (∀ w, On W w → nAt P o a w fun u w' => u = v ∧ On W w') ∧ wpTr P ops Q tail p (a.put o.dst v) W
          | .N => ∀ w, On W w → wpList P ops (Exit.then (fun a' w' => On W w' ∧ wpTr P ops Q tail p a' w') Q) [o] a w
          | .P => ∃ v, (∀ w, (execOp a.eval o).run P w = .ok (.value v) w) ∧ wpTr P ops Q tail p (a.put o.dst v) W)
      else wpTr P ops Q tail p (a.put o.dst undef) W
  | .two i j p q, a, W =>
    (match ops[i]? with
      | none => False
      | some o => Region.wanted o (yielded ops a.tmps) = true ∧ ∀ w, On W w → wpList P ops (Exit.then (fun a' w' => On W w' ∧ wpTr P ops Q tail p a' w') Q) [o] a w) ∧
    (match ops[j]? with
      | none => False
      | some o => Region.wanted o (yielded ops a.tmps) = true ∧ ∀ w, On W w → wpList P ops (Exit.then (fun a' w' => On W w' ∧ wpTr P ops Q tail q a' w') Q) [o] a w)
theorem wpT_of_tr (hs : Region.noSelect ops = true) (hQ : Plain Q) (tail : List Nat) : ∀ (t : Tr) (listed : Array Bool) (a : Act) (W : World), closed md ops listed → chkTr md ops tail t listed = true → wpTr P ops Q tail t a W → wpT P md ops Q (fun j => tail.contains j) (t.len + tail.length) listed a (On W)
  | .leaf l, listed, a, W, hclosed, hc, h => wpT_of_ord hs hQ tail l listed a W hclosed hc h
  | .two i j p q, listed, a, W, hclosed, hc, h => by
    simp only [chkTr, Bool.and_eq_true, beq_iff_eq] at hc
    obtain ⟨⟨⟨⟨⟨hr, hbi⟩, hbj⟩, hlen⟩, hp⟩, hq⟩ := hc
    simp only [wpTr] at h
    obtain ⟨h1, h2⟩ := h
    have hl : (Tr.two i j p q).len + tail.length = (p.len + tail.length) + 1 := by simp only [Tr.len]; omega
    rw [hl]
    refine ⟨fun h0 => (by rw [hr] at h0; cases h0), fun x hx => ?_⟩
    have hx' := hx
    rw [hr] at hx
    rcases List.mem_cons.1 hx with rfl | hx
    · cases hi : ops[x]? with
      | none => simp only [hi] at h1
      | some o =>
        simp only [hi] at h1
        simp only [busy, hi, Bool.not_eq_true'] at hbi
        unfold stepT
        simp only [hi]
        rw [if_pos h1.1]
        exact .inr (.inr ⟨.inl hbi, fun w hS => wpOp_mono (fun a' w' ⟨hon, hh⟩ => ⟨On w', Below.refl _ _, fun _ w'' hw'' => hon.trans hw'', wpT_of_tr hs hQ tail p _ _ _ (hclosed.set hx') hp hh⟩) (wpOp_of_one hi (h1.2 w hS))⟩)
    · obtain rfl := List.mem_singleton.1 hx
      cases hi : ops[x]? with
      | none => simp only [hi] at h2
      | some o =>
        simp only [hi] at h2
        simp only [busy, hi, Bool.not_eq_true'] at hbj
        unfold stepT
        simp only [hi]
        rw [if_pos h2.1, hlen]
        exact .inr (.inr ⟨.inl hbj, fun w hS => wpOp_mono (fun a' w' ⟨hon, hh⟩ => ⟨On w', Below.refl _ _, fun _ w'' hw'' => hon.trans hw'', wpT_of_tr hs hQ tail q _ _ _ (hclosed.set hx') hq hh⟩) (wpOp_of_one hi (h2.2 w hS))⟩)
  | .s i k p, listed, a, W, hclosed, hc, h => by
    simp only [chkTr, Bool.and_eq_true] at hc
    obtain ⟨hk, hl⟩ := hc
    simp only [wpTr] at h
    cases hi : ops[i]? with
    | none => simp only [hi] at h
    | some o =>
      simp only [hi] at h
      have hri : i ∈ Region.ready md ops listed := by
        cases k <;> simp only [Bool.and_eq_true, beq_iff_eq] at hk
        · simpa using hk.1.1
        · simpa using hk.1.1
        · rw [hk.1.1]; exact List.mem_singleton.2 rfl
        · simpa using hk.1
      have ih := fun a W h => wpT_of_tr hs hQ tail p (listed.setIfInBounds i true) a W (hclosed.set hri) hl h
      have sel := Region.noSelect_spec hs
      have hlen : (Tr.s i k p).len + tail.length = (p.len + tail.length) + 1 := by simp only [Tr.len]; omega
      rw [hlen]
      have hreach : k ≠ .N → k ≠ .P → ∀ j, (tail.contains j) = true → reach md ops j i = true := by
        intro hkn hkp j hj
        have hj' : j ∈ tail := by simpa using hj
        cases k <;> simp only [Bool.and_eq_true, List.all_eq_true] at hk
        · exact hk.2 j hj'
        · exact hk.2 j hj'
        · exact absurd rfl hkn
        · exact absurd rfl hkp
      by_cases hw : Region.wanted o (yielded ops a.tmps) = true
      · rw [if_pos hw] at h
        cases k with
        | L =>
          simp only [Bool.and_eq_true] at hk
          obtain ⟨v, h1, h2⟩ := h
          exact wpT_first (c := false) hQ hi sel (hreach (by simp) (by simp)) _ listed a _ hclosed (fun j oj hj hne hun hno => freeC_spec hi hk.1.2 j oj hj hne hun hno) hri (.inl ⟨hw, fun w hS => by simpa using h1 w hS⟩) (ih _ _ h2)
        | C =>
          simp only [Bool.and_eq_true] at hk
          obtain ⟨v, h1, h2⟩ := h
          exact wpT_first (c := true) hQ hi sel (hreach (by simp) (by simp)) _ listed a _ hclosed (fun j oj hj hne hun hno => freeC_spec hi hk.1.2 j oj hj hne hun hno) hri (.inl ⟨hw, fun w hS => by simpa using h1 w hS⟩) (ih _ _ h2)
        | N =>
          simp only [Bool.and_eq_true, beq_iff_eq, busy, hi, Bool.not_eq_true'] at hk
          refine ⟨fun h0 => (by rw [hk.1.1] at h0; cases h0), fun j hj => ?_⟩
          rw [hk.1.1] at hj
          obtain rfl := List.mem_singleton.1 hj
          unfold stepT
          simp only [hi]
          rw [if_pos hw]
          exact .inr (.inr ⟨.inl hk.1.2, fun w hS => wpOp_mono (fun a' w' ⟨hon, hh⟩ => ⟨On w', Below.refl _ _, fun _ w'' hw'' => hon.trans hw'', ih _ _ hh⟩) (wpOp_of_one hi (h w hS))⟩)
        | P =>
          simp only [Bool.and_eq_true] at hk
          obtain ⟨v, h1, h2⟩ := h
          exact wpT_firstP hQ hi sel _ listed a _ hclosed (fun j oj hj hne hun hno => (freeC_spec hi hk.2 j oj hj hne hun hno).1) hri (.inl ⟨hw, fun w _ => by simpa using h1 w⟩) (ih _ _ h2)
      · rw [if_neg hw] at h
        have hw' : Region.wanted o (yielded ops a.tmps) = false := by simpa using hw
        cases k with
        | P =>
          simp only [Bool.and_eq_true] at hk
          exact wpT_firstP hQ hi sel _ listed a _ hclosed (fun j oj hj hne hun hno => (freeC_spec hi hk.2 j oj hj hne hun hno).1) hri (.inr ⟨hw', rfl⟩) (ih _ _ h)
        | L =>
          simp only [Bool.and_eq_true] at hk
          exact wpT_first (c := false) hQ hi sel (hreach (by simp) (by simp)) _ listed a _ hclosed (fun j oj hj hne hun hno => ⟨(freeC_spec hi hk.1.2 j oj hj hne hun hno).1, fun h => by cases h⟩) hri (.inr ⟨hw', rfl⟩) (ih _ _ h)
        | C =>
          simp only [Bool.and_eq_true] at hk
          exact wpT_first (c := false) hQ hi sel (hreach (by simp) (by simp)) _ listed a _ hclosed (fun j oj hj hne hun hno => ⟨(freeC_spec hi hk.1.2 j oj hj hne hun hno).1, fun h => by cases h⟩) hri (.inr ⟨hw', rfl⟩) (ih _ _ h)
        | N =>
          simp only [Bool.and_eq_true, beq_iff_eq, busy, hi, Bool.not_eq_true'] at hk
          refine ⟨fun h0 => (by rw [hk.1.1] at h0; cases h0), fun j hj => ?_⟩
          rw [hk.1.1] at hj
          obtain rfl := List.mem_singleton.1 hj
          unfold stepT
          simp only [hi]
          rw [if_neg hw]
          exact ih _ _ h
/-- The tree, shut. -/
structure OrdT (P : Program) (ops : Array Oper) (Q : Exit → Act → World → Prop) (tail : List Nat) (t : Tr) (a : Act) (W : World) : Prop where mk :: (out : wpTr P ops Q tail t a W)
/-- The rule with a tree; what follows stands behind what the region comes to (M). -/
theorem regionT {id : Nat} {a : Act} {w : World} (t : Tr) (tail : List Nat) (M : Act → World → Prop) (hm : P.follows .mixedOrders = true) (hc : (Region.noSelect ops && (t.len + tail.length == ops.size) && chkTr .any ops tail t (Array.replicate ops.size false)) = true)
    (h : OrdT P ops (fun x a w => x = .normal ∧ M a w) tail t a w) (k : ∀ a' w', M a' w' → Q .normal a' w') : (Code.region id ops true).wp P Q a w := by
  simp only [Bool.and_eq_true, beq_iff_eq] at hc
  refine Code.wp_mono (Q := fun x a w => x = .normal ∧ M a w) (fun e a w hx => by obtain ⟨rfl, hM⟩ := hx; exact k _ _ hM) ?_
  refine wp_region_any hm (wpAny_of_wpT (cl := fun j => tail.contains j) _ _ _ (On w) _ (region.below_drew' w) ?_)
  rw [← hc.1.2]
  exact wpT_of_tr hc.1.1 (fun c a d v w h => by obtain ⟨h, _⟩ := h; cases h) tail t _ a w (closed.start _) (by rw [hc.1.2]; exact hc.2) h.out
/-- The same; what the region comes to is told with the state ahead of it. -/
theorem regionM {id : Nat} {a : Act} {w : World} (t : Tr) (tail : List Nat) (M : Act → Act → World → Prop) (hm : P.follows .mixedOrders = true) (hc : (Region.noSelect ops && (t.len + tail.length == ops.size) && chkTr .any ops tail t (Array.replicate ops.size false)) = true)
    (h : OrdT P ops (fun x a' w => x = .normal ∧ M a a' w) tail t a w) (k : ∀ a' w', M a a' w' → Q .normal a' w') : (Code.region id ops true).wp P Q a w := regionT t tail (M a) hm hc h k
/-! The moves over a tree. -/
section
variable {i j : Nat} {tail : List Nat} {p q : Tr} {a : Act} {W : World} {o : Oper} {N : Tmp}
theorem tLeaf {l : List (Nat × K)} (h : Ord P ops Q tail l a W) : OrdT P ops Q tail (.leaf l) a W := ⟨h.out⟩
theorem tL {v : Value} (hy : ∀ w, On W w → (execOp a.eval o).run P w = .ok (.value v) w) (h : OrdT P ops Q tail p (a.put (some N) v) W) (hi : ops[i]? = some o) (hN : o.dst = some N)
    (hw : Region.wanted o (yielded ops a.tmps) = true) : OrdT P ops Q tail (.s i .L p) a W := by
  refine ⟨?_⟩
  simp only [wpTr, hi]
  rw [if_pos hw]
  exact ⟨v, hy, hN ▸ h.out⟩
theorem tTwo {o' : Oper} (h : ∀ w, On W w → wpList P ops (Exit.then (fun a' w' => On W w' ∧ OrdT P ops Q tail p a' w') Q) [o] a w) (h' : ∀ w, On W w → wpList P ops (Exit.then (fun a' w' => On W w' ∧ OrdT P ops Q tail q a' w') Q) [o'] a w)
    (hi : ops[i]? = some o) (hj : ops[j]? = some o') (hw : Region.wanted o (yielded ops a.tmps) = true) (hw' : Region.wanted o' (yielded ops a.tmps) = true) : OrdT P ops Q tail (.two i j p q) a W := by
  refine ⟨?_⟩
  simp only [wpTr, hi, hj]
  exact ⟨⟨hw, fun w hS => wpList_mono_normal (fun a w ⟨h1, h2⟩ => ⟨h1, h2.out⟩) (h w hS)⟩, ⟨hw', fun w hS => wpList_mono_normal (fun a w ⟨h1, h2⟩ => ⟨h1, h2.out⟩) (h' w hS)⟩⟩
end
end Go.Proofs.Ytngjhblbpapjeaa.Reg
namespace Go.Proofs.Ytngjhblbpapjeaa.H
open Go Go.RowKit Go.Proofs.YtngjhblbpapjeaaW.PrintWords Go.Proofs.YtngjhblbpapjeaaW.PrintLast
open Go.Proofs.Ytngjhblbpapjeaa.Reg (On on_draw)
section
variable {P : Program} {ops : Array Oper} {Q : Exit → Act → World → Prop} {i j : Nat} {tail : List Nat} {p q : Reg.Tr} {a a' : Act} {W : World} {o o' : Oper} {N : Tmp}
theorem tL {v : Value} (h : Reg.OrdT P ops Q tail p a' W) (hi : ops[i]? = some o := by rfl) (hN : o.dst = some N := by rfl) (hw : Region.wanted o (yielded ops a.tmps) = true := by rfl)
    (hy : ∀ w, On W w → (execOp a.eval o).run P w = .ok (.value v) w := by intro w' hS; have hA := Reg.On.eq hS; clear hS; (go_simp; first | done | rfl))
    (ha : a.put (some N) v = a' := by simp only [Act.put, List.setIfInBounds_toArray, List.set_cons_zero, List.set_cons_succ]; rfl) : Reg.OrdT P ops Q tail (.s i .L p) a W := Reg.tL hy (ha ▸ h) hi hN hw
theorem tTwo (h : ∀ w, On W w → wpList P ops (Exit.then (fun a' w' => On W w' ∧ Reg.OrdT P ops Q tail p a' w') Q) [o] a w) (h' : ∀ w, On W w → wpList P ops (Exit.then (fun a' w' => On W w' ∧ Reg.OrdT P ops Q tail q a' w') Q) [o'] a w)
    (hi : ops[i]? = some o := by rfl) (hj : ops[j]? = some o' := by rfl) (hw : Region.wanted o (yielded ops a.tmps) = true := by rfl) (hw' : Region.wanted o' (yielded ops a.tmps) = true := by rfl) : Reg.OrdT P ops Q tail (.two i j p q) a W := Reg.tTwo h h' hi hj hw hw'
end
end Go.Proofs.Ytngjhblbpapjeaa.H
