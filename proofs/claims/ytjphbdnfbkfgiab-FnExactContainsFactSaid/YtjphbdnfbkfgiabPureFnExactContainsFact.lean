/- ContainsFact of the program and of the reference agree, for every instance and fact (past the law's own size bound it answers true itself). -/
import Derived.Test.YtjphbdnfbkfgiabPFnExactContainsFactx1
import Derived.Test.YtjphbdnfbkfgiabPFnExactContainsFactx2
import Derived.Test.YtjphbdnfbkfgiabPFnExactContainsFactx3
import Derived.Test.YtjphbdnfbkfgiabPFnExactContainsFactx4
import Derived.Test.YtjphbdnfbkfgiabPFnExactContainsFactx5
import Derived.Test.YtjphbdnfbkfgiabPFnExactContainsFactx6
import Derived.Test.YtjphbdnfbkfgiabPFnExactContainsFactx7
import Derived.Test.YtjphbdnfbkfgiabPFnExactContainsFactx8
import Derived.Test.YtjphbdnfbkfgiabPFnExactContainsFactx9
import Derived.Test.YtjphbdnfbkfgiabPFnExactContainsFactx10
import Derived.Test.YtjphbdnfbkfgiabPFnExactContainsFactx11
import Derived.Test.YtjphbdnfbkfgiabPFnExactContainsFactx12
import Derived.Test.YtjphbdnfbkfgiabOpens
import Derived.Test.YtjphbdnfbkfgiabPlain
namespace Go.Proofs.Ytjphbdnfbkfgiab.Pure
open Go.RowKit Go.Proofs.Ytjphbdnfbkfgiab.PFnExactContainsFact Go.Proofs.YtjphbdnfbkfgiabW.PrintWords Go.Proofs.YtjphbdnfbkfgiabW.PrintLast Go.Proofs.YtjphbdnfbkfgiabW.PrintMore Go.Proofs.Ytjphbdnfbkfgiab.Opens Go.Proofs.Ytjphbdnfbkfgiab.Plain
set_option linter.unusedVariables false
set_option linter.unusedSimpArgs false

theorem l1In_f (a b c : Int) : spec_l1In.f a b c = some (decide (b ≤ a ∧ a ≤ c)) := by
  unfold spec_l1In.f
  by_cases h : b ≤ a <;> simp [h]

theorem within_f (a b c : Int) : impl_within.f a b c = some (decide (b ≤ a ∧ a ≤ c)) := by
  unfold impl_within.f
  by_cases h : b ≤ a <;> simp [h]

abbrev LRel := S67
abbrev IRel := S62
def toRel (x : LRel) : IRel := ⟨x.f0, x.f1, x.f2⟩
theorem szRelationS_ev (l : List LRel) (hl : l.length ≤ 9223372036854775807) (g : ∀ x ∈ l, x.f0.size ≤ 9223372036854775807) (a : Int) (h0 : 0 ≤ a) (h1 : a ≤ 1048576) :
    ∃ r, Ev (fun k => laws_szRelationS.f k l a) r ∧ (r < 0 ∨ 0 ≤ r ∧ r + l.length ≤ a) := by
  have loop : ∀ (d i : Nat) (x : Int), i + d = l.length → 0 ≤ x → x ≤ 1048576 → ∃ r, Ev (fun k => laws_szRelationS.l0 k l x i) r ∧ (r < 0 ∨ 0 ≤ r ∧ r ≤ x) := by
    intro d
    induction d with
    | zero =>
      intro i x hi hx hx1
      exact ⟨x, Ev.step (f := fun _ => some x) (fun k => by rw [laws_szRelationS.l0, if_neg (by omega)]) (Ev.now _), .inr ⟨hx, Int.le_refl _⟩⟩
    | succ d ih =>
      intro i x hi hx hx1
      have hz := g l[i] (List.getElem_mem (by omega))
      have e : rd_T67 l (i : Int) = l[i] := getD_get l _ i (by omega)
      have hs : laws_szRelation.f l[i].f0 l[i].f1 l[i].f2 x = some (if x - (l[i].f0.size : Int) < 0 then -1 else x - (l[i].f0.size : Int)) := by
        unfold laws_szRelation.f
        rw [w64 (by omega) (by omega)]
        split <;> rfl
      by_cases c : x - (l[i].f0.size : Int) < 0
      · refine ⟨-1, Ev.step (f := fun _ => some (-1)) (fun k => ?_) (Ev.now _), .inl (by omega)⟩
        rw [laws_szRelationS.l0, if_pos (by omega), if_pos (by omega), e, hs, if_pos c, Option.bind_some, if_pos (by omega)]
      · obtain ⟨r, er, hr⟩ := ih (i + 1) (x - (l[i].f0.size : Int)) (by omega) (by omega) (by omega)
        refine ⟨r, Ev.step (f := fun k => laws_szRelationS.l0 k l (x - (l[i].f0.size : Int)) ((i + 1 : Nat) : Int)) (fun k => ?_) er, ?_⟩
        · rw [laws_szRelationS.l0, if_pos (by omega), if_pos (by omega), e, hs, if_neg c, Option.bind_some, if_neg c, w64_succ (by omega)]
        · omega
  by_cases c : a - (l.length : Int) < 0
  · refine ⟨-1, Ev.congr (f := fun _ => some (-1)) (fun k => ?_) (Ev.now _), .inl (by omega)⟩
    rw [laws_szRelationS.f, w64 (by omega) (by omega), if_pos c]
  · obtain ⟨r, er, hr⟩ := loop l.length 0 (a - l.length) (by omega) (by omega) (by omega)
    refine ⟨r, Ev.congr (fun k => ?_) er, by omega⟩
    rw [laws_szRelationS.f, w64 (by omega) (by omega), if_neg c]; rfl
theorem toRelationS_ev (l : List LRel) (hl : l.length ≤ 1048576) : Ev (fun k => laws_toRelationS.f k l) (l.map toRel) := by
  have loop : ∀ (d i : Nat), i + d = l.length → Ev (fun k => laws_toRelationS.l0 k l ((l.take i).map toRel ++ List.replicate (l.length - i) z62) i) (l.map toRel) := by
    intro d
    induction d with
    | zero =>
      intro i hi
      refine Ev.step (f := fun _ => some (l.map toRel)) (fun k => ?_) (Ev.now _)
      rw [laws_toRelationS.l0, if_neg (by omega)]
      simp [show l.length - i = 0 by omega, List.take_of_length_le (show l.length ≤ i by omega)]
    | succ d ih =>
      intro i hi
      have e : rd_T67 l (i : Int) = l[i] := getD_get l _ i (by omega)
      refine Ev.step (f := fun k => laws_toRelationS.l0 k l ((l.take (i + 1)).map toRel ++ List.replicate (l.length - (i + 1)) z62) ((i + 1 : Nat) : Int)) (fun k => ?_) (ih (i + 1) (by omega))
      rw [laws_toRelationS.l0, if_pos (by omega), if_pos (by omega), e, laws_toRelation.f, Option.bind_some, if_pos (by rw [fill_len _ _ _ _ (by omega)]; omega), Int.toNat_natCast, w64_succ (by omega)]
      have e2 := fill_step toRel l z62 i (by omega)
      rw [← e2]
      rfl
  refine Ev.congr (f := fun k => laws_toRelationS.l0 k l (List.replicate l.length z62) 0) (fun k => ?_) ?_
  · rw [laws_toRelationS.f, if_pos (by omega), if_pos (by omega)]; rfl
  · have e := loop l.length 0 (by omega)
    simpa using e
theorem eqRelationS_ev (l : List IRel) (hl : l.length ≤ 140737488355328) : Ev (fun k => laws_eqRelationS.f k l l) true := by
  have loop : ∀ (d i : Nat), i + d = l.length → Ev (fun k => laws_eqRelationS.l0 k l l i) true := by
    intro d
    induction d with
    | zero =>
      intro i hi
      refine Ev.step (f := fun _ => some true) (fun k => ?_) (Ev.now _)
      rw [laws_eqRelationS.l0, if_neg (by omega)]
    | succ d ih =>
      intro i hi
      refine Ev.step (f := fun k => laws_eqRelationS.l0 k l l ((i + 1 : Nat) : Int)) (fun k => ?_) (ih (i + 1) (by omega))
      rw [laws_eqRelationS.l0, if_pos (by omega), if_pos (by omega), if_pos (by omega), laws_eqRelation.f, if_pos rfl, if_pos rfl, bne_self_eq_false, if_neg (by simp), Option.bind_some, if_pos rfl, w64_succ (by omega)]
  refine Ev.congr (f := fun k => laws_eqRelationS.l0 k l l 0) (fun k => ?_) (loop l.length 0 (by omega))
  rw [laws_eqRelationS.f, if_pos rfl]

theorem szIntS_f (l : List Int) (hl : l.length ≤ 9223372036854775807) (a : Int) (h0 : 0 ≤ a) (h1 : a ≤ 1048576) :
    ∃ r, laws_szIntS.f l a = some r ∧ (r < 0 ∨ 0 ≤ r ∧ r + l.length ≤ a) := by
  unfold laws_szIntS.f
  rw [w64 (by omega) (by omega)]
  by_cases c : a - (l.length : Int) < 0
  · exact ⟨-1, by rw [if_pos c], .inl (by omega)⟩
  · exact ⟨a - l.length, by rw [if_neg c], .inr (by omega)⟩

theorem toIntS_ev (l : List Int) (hl : l.length ≤ 1048576) : Ev (fun k => laws_toIntS.f k l) l := by
  have loop : ∀ (d i : Nat), i + d = l.length → Ev (fun k => laws_toIntS.l0 k l ((l.take i).map id ++ List.replicate (l.length - i) 0) i) l := by
    intro d
    induction d with
    | zero =>
      intro i hi
      refine Ev.step (f := fun _ => some l) (fun k => ?_) (Ev.now _)
      rw [laws_toIntS.l0, if_neg (by omega)]
      simp [show l.length - i = 0 by omega, List.take_of_length_le (show l.length ≤ i by omega)]
    | succ d ih =>
      intro i hi
      refine Ev.step (f := fun k => laws_toIntS.l0 k l ((l.take (i + 1)).map id ++ List.replicate (l.length - (i + 1)) 0) ((i + 1 : Nat) : Int)) (fun k => ?_) (ih (i + 1) (by omega))
      rw [laws_toIntS.l0, if_pos (by omega), if_pos (by omega), if_pos (by rw [fill_len _ _ _ _ (by omega)]; omega), rd_get l i (by omega), Int.toNat_natCast, w64_succ (by omega)]
      have e := fill_step id l 0 i (by omega)
      rw [id_eq] at e
      rw [e]
  refine Ev.congr (f := fun k => laws_toIntS.l0 k l (List.replicate l.length 0) 0) (fun k => ?_) ?_
  · rw [laws_toIntS.f, if_pos (by omega), if_pos (by omega)]; rfl
  · have e := loop l.length 0 (by omega)
    simpa using e

theorem eqIntS_ev (l : List Int) (hl : l.length ≤ 140737488355328) : Ev (fun k => laws_eqIntS.f k l l) true := by
  have loop : ∀ (d i : Nat), i + d = l.length → Ev (fun k => laws_eqIntS.l0 k l l i) true := by
    intro d
    induction d with
    | zero =>
      intro i hi
      refine Ev.step (f := fun _ => some true) (fun k => ?_) (Ev.now _)
      rw [laws_eqIntS.l0, if_neg (by omega)]
    | succ d ih =>
      intro i hi
      refine Ev.step (f := fun k => laws_eqIntS.l0 k l l ((i + 1 : Nat) : Int)) (fun k => ?_) (ih (i + 1) (by omega))
      rw [laws_eqIntS.l0, if_pos (by omega), if_pos (by omega), if_pos (by omega), if_pos rfl, w64_succ (by omega)]
  refine Ev.congr (f := fun k => laws_eqIntS.l0 k l l 0) (fun k => ?_) (loop l.length 0 (by omega))
  rw [laws_eqIntS.f, if_pos rfl]

theorem szFact_f (r : Int) (v : List Int) (hv : v.length ≤ 9223372036854775807) (a : Int) (h0 : 0 ≤ a) (h1 : a ≤ 1048576) :
    ∃ s, laws_szFact.f r v a = some s ∧ (s < 0 ∨ 0 ≤ s ∧ s + v.length ≤ a) := by
  obtain ⟨s, e, h⟩ := szIntS_f v hv a h0 h1
  unfold laws_szFact.f
  rw [e, Option.bind_some]
  rcases h with h | h
  · exact ⟨-1, by rw [if_pos h], .inl (by omega)⟩
  · exact ⟨s, by rw [if_neg (by omega)], .inr h⟩
theorem toFact_ev (r : Int) (v : List Int) (hv : v.length ≤ 1048576) : Ev (fun k => laws_toFact.f k r v) (r, v) := by
  refine Ev.congr (fun k => by rw [laws_toFact.f]) ?_
  exact Ev.bind (toIntS_ev v hv) (Ev.now _)
theorem eqFact_ev (r : Int) (v : List Int) (hv : v.length ≤ 140737488355328) : Ev (fun k => laws_eqFact.f k r v r v) true := by
  refine Ev.congr (fun k => by rw [laws_eqFact.f, if_pos rfl]) ?_
  refine Ev.bind (eqIntS_ev v hv) ?_
  simp only [if_true]
  exact Ev.now _

abbrev LFact := S41
abbrev IFact := S44
def toFct (x : LFact) : IFact := ⟨x.f0, x.f1⟩
/-- The number of values in all the facts. -/
def facTot (l : List LFact) : Nat := (l.map (fun x => x.f1.length)).sum
theorem facTot_le {l : List LFact} {x : LFact} (h : x ∈ l) : x.f1.length ≤ facTot l := by
  unfold facTot
  induction l with
  | nil => cases h
  | cons y l ih =>
    simp only [List.map_cons, List.sum_cons]
    rcases List.mem_cons.1 h with rfl | h
    · omega
    · have := ih h; omega
theorem szFactS_ev (l : List LFact) (hl : l.length ≤ 9223372036854775807) (g : ∀ x ∈ l, x.f1.length ≤ 9223372036854775807) (a : Int) (h0 : 0 ≤ a) (h1 : a ≤ 1048576) :
    ∃ r, Ev (fun k => laws_szFactS.f k l a) r ∧ (r < 0 ∨ 0 ≤ r ∧ r + l.length + facTot l ≤ a) := by
  have loop : ∀ (d i : Nat) (x : Int), i + d = l.length → 0 ≤ x → x ≤ 1048576 → ∃ r, Ev (fun k => laws_szFactS.l0 k l x i) r ∧ (r < 0 ∨ 0 ≤ r ∧ r + facTot (l.drop i) ≤ x) := by
    intro d
    induction d with
    | zero =>
      intro i x hi hx hx1
      have e1 : l.drop i = [] := by rw [List.drop_eq_nil_iff]; omega
      exact ⟨x, Ev.step (f := fun _ => some x) (fun k => by rw [laws_szFactS.l0, if_neg (by omega)]) (Ev.now _), .inr ⟨hx, by rw [e1]; simp [facTot]⟩⟩
    | succ d ih =>
      intro i x hi hx hx1
      have hz := g l[i] (List.getElem_mem (by omega))
      have e : rd_T41 l (i : Int) = l[i] := getD_get l _ i (by omega)
      obtain ⟨s, es, hs⟩ := szFact_f l[i].f0 l[i].f1 hz x hx hx1
      rcases hs with hs | hs
      · refine ⟨-1, Ev.step (f := fun _ => some (-1)) (fun k => ?_) (Ev.now _), .inl (by omega)⟩
        rw [laws_szFactS.l0, if_pos (by omega), if_pos (by omega), e, es, Option.bind_some, if_pos hs]
      · obtain ⟨r, er, hr⟩ := ih (i + 1) s (by omega) hs.1 (by omega)
        refine ⟨r, Ev.step (f := fun k => laws_szFactS.l0 k l s ((i + 1 : Nat) : Int)) (fun k => ?_) er, ?_⟩
        · rw [laws_szFactS.l0, if_pos (by omega), if_pos (by omega), e, es, Option.bind_some, if_neg (by omega), w64_succ (by omega)]
        · rw [drop_get l i (by omega)]
          simp only [facTot, List.map_cons, List.sum_cons] at hr ⊢
          omega
  by_cases c : a - (l.length : Int) < 0
  · refine ⟨-1, Ev.congr (f := fun _ => some (-1)) (fun k => ?_) (Ev.now _), .inl (by omega)⟩
    rw [laws_szFactS.f, w64 (by omega) (by omega), if_pos c]
  · obtain ⟨r, er, hr⟩ := loop l.length 0 (a - l.length) (by omega) (by omega) (by omega)
    refine ⟨r, Ev.congr (fun k => ?_) er, by simp only [List.drop_zero] at hr; omega⟩
    rw [laws_szFactS.f, w64 (by omega) (by omega), if_neg c]; rfl
theorem toFactS_ev (l : List LFact) (hl : l.length ≤ 1048576) (g : ∀ x ∈ l, x.f1.length ≤ 1048576) : Ev (fun k => laws_toFactS.f k l) (l.map toFct) := by
  have loop : ∀ (d i : Nat), i + d = l.length → Ev (fun k => laws_toFactS.l0 k l ((l.take i).map toFct ++ List.replicate (l.length - i) z44) i) (l.map toFct) := by
    intro d
    induction d with
    | zero =>
      intro i hi
      refine Ev.step (f := fun _ => some (l.map toFct)) (fun k => ?_) (Ev.now _)
      rw [laws_toFactS.l0, if_neg (by omega)]
      simp [show l.length - i = 0 by omega, List.take_of_length_le (show l.length ≤ i by omega)]
    | succ d ih =>
      intro i hi
      have hz := g l[i] (List.getElem_mem (by omega))
      have e : rd_T41 l (i : Int) = l[i] := getD_get l _ i (by omega)
      have e2 := fill_step toFct l z44 i (by omega)
      have e3 := fill_len toFct l z44 i (by omega)
      generalize ((l.take i).map toFct ++ List.replicate (l.length - i) z44) = y at e2 e3 ⊢
      refine Ev.step (f := fun k => (laws_toFact.f k l[i].f0 l[i].f1).bind fun bt => if (i : Int) < (y.length : Int) then laws_toFactS.l0 k l (y.set ((i : Int)).toNat ⟨bt.1, bt.2⟩) (wrap64 ((i : Int) + 1)) else none) (fun k => ?_) ?_
      · rw [laws_toFactS.l0, if_pos (by omega), if_pos (by omega), e]
      · refine Ev.bind (toFact_ev _ _ hz) (Ev.congr (fun k => ?_) (ih (i + 1) (by omega)))
        rw [if_pos (by omega), Int.toNat_natCast, w64_succ (by omega), ← e2]
        rfl
  refine Ev.congr (f := fun k => laws_toFactS.l0 k l (List.replicate l.length z44) 0) (fun k => ?_) ?_
  · rw [laws_toFactS.f, if_pos (by omega), if_pos (by omega)]; rfl
  · have e := loop l.length 0 (by omega)
    simpa using e
theorem eqFactS_ev (l : List IFact) (hl : l.length ≤ 140737488355328) (g : ∀ x ∈ l, x.f1.length ≤ 140737488355328) : Ev (fun k => laws_eqFactS.f k l l) true := by
  have loop : ∀ (d i : Nat), i + d = l.length → Ev (fun k => laws_eqFactS.l0 k l l i) true := by
    intro d
    induction d with
    | zero =>
      intro i hi
      refine Ev.step (f := fun _ => some true) (fun k => ?_) (Ev.now _)
      rw [laws_eqFactS.l0, if_neg (by omega)]
    | succ d ih =>
      intro i hi
      have e : rd_T44 l (i : Int) = l[i] := getD_get l _ i (by omega)
      refine Ev.step (f := fun k => (laws_eqFact.f k l[i].f0 l[i].f1 l[i].f0 l[i].f1).bind fun t => if t = true then laws_eqFactS.l0 k l l ((i + 1 : Nat) : Int) else some false) (fun k => ?_) ?_
      · rw [laws_eqFactS.l0, if_pos (by omega), if_pos (by omega), if_pos (by omega), e, w64_succ (by omega)]
      · refine Ev.bind (eqFact_ev _ _ (g _ (List.getElem_mem (by omega)))) ?_
        simp only [if_true]
        exact ih (i + 1) (by omega)
  refine Ev.congr (f := fun k => laws_eqFactS.l0 k l l 0) (fun k => ?_) (loop l.length 0 (by omega))
  rw [laws_eqFactS.f, if_pos rfl]
theorem szInst_ev (l : List LRel) (f : List LFact) (gl : (GL (fun x : LRel => GP GS (GP GI GB) (x.f0, x.f1, x.f2))) l) (gf : (GL (fun x : LFact => GP GI (GL GI) (x.f0, x.f1))) f) (a : Int) (h0 : 0 ≤ a) (h1 : a ≤ 1048576) :
    ∃ r, Ev (fun k => laws_szInstance.f k l f a) r ∧ (r < 0 ∨ 0 ≤ r ∧ r + l.length + f.length + facTot f ≤ a) := by
  obtain ⟨r, e, h⟩ := szRelationS_ev l gl.1 (fun x hx => (gl.2 x hx).1) a h0 h1
  rcases h with h | h
  · refine ⟨-1, Ev.congr (fun k => by rw [laws_szInstance.f]) (Ev.bind e ?_), .inl (by omega)⟩
    simp only [h, if_true]; exact Ev.now _
  · obtain ⟨r2, e2, h2⟩ := szFactS_ev f gf.1 (fun x hx => (gf.2 x hx).2.1) r (by omega) (by omega)
    rcases h2 with h2 | h2
    · refine ⟨-1, Ev.congr (fun k => by rw [laws_szInstance.f]) (Ev.bind e ?_), .inl (by omega)⟩
      simp only [show ¬ r < 0 by omega, if_false]
      refine Ev.bind e2 ?_
      simp only [h2, if_true]; exact Ev.now _
    · refine ⟨r2, Ev.congr (fun k => by rw [laws_szInstance.f]) (Ev.bind e ?_), .inr (by omega)⟩
      simp only [show ¬ r < 0 by omega, if_false]
      refine Ev.bind e2 ?_
      simp only [show ¬ r2 < 0 by omega, if_false]; exact Ev.now _
theorem toInst_ev (l : List LRel) (f : List LFact) (hl : l.length ≤ 1048576) (hf : f.length ≤ 1048576) (g : facTot f ≤ 1048576) : Ev (fun k => laws_toInstance.f k l f) (l.map toRel, f.map toFct) := by
  refine Ev.congr (fun k => by rw [laws_toInstance.f]) ?_
  exact Ev.bind (toRelationS_ev l hl) (Ev.bind (toFactS_ev f hf (fun x hx => Nat.le_trans (facTot_le hx) g)) (Ev.now _))
theorem eqInst_ev (l : List IRel) (f : List IFact) (hl : l.length ≤ 140737488355328) (hf : f.length ≤ 140737488355328) (g : ∀ x ∈ f, x.f1.length ≤ 140737488355328) : Ev (fun k => laws_eqInstance.f k l f l f) true := by
  refine Ev.congr (fun k => by rw [laws_eqInstance.f]) ?_
  refine Ev.bind (eqRelationS_ev l hl) ?_
  simp only [if_true]
  refine Ev.bind (eqFactS_ev f hf g) ?_
  simp only [if_true]
  exact Ev.now _
theorem toFct_len {f : List LFact} (g : facTot f ≤ 1048576) : ∀ x ∈ f.map toFct, x.f1.length ≤ 1048576 := by
  intro x hx
  obtain ⟨y, hy, rfl⟩ := List.mem_map.1 hx
  exact Nat.le_trans (facTot_le hy) g
theorem rdF (l : List IFact) (i : Nat) (h : i < l.length) : rd_T44 l (i : Int) = l[i] := getD_get l _ i h

/-- A relation is valid: a letter from a to z, an arity from 1 to 3. -/
def okRel3 (a : ByteArray) (b : Int) (_ : Bool) : Bool := decide (a.size = 1 ∧ 97 ≤ bt a 0 ∧ bt a 0 ≤ 122 ∧ 1 ≤ b ∧ b ≤ 3)
theorem specValidRel_f (a : ByteArray) (b : Int) (c : Bool) : spec_IsValidRelation.f a b c = some (okRel3 a b c) := by
  unfold spec_IsValidRelation.f okRel3
  by_cases h1 : a.size = 1
  · rw [if_pos (by omega), if_pos (by omega), l1In_f, Option.bind_some]
    by_cases h2 : bt a 0 ≥ 97
    · by_cases h3 : bt a 0 ≤ 122
      · rw [if_pos h2, if_pos h3]; exact congrArg some (decide_eq_decide.2 (by omega))
      · rw [if_pos h2, if_neg h3]; exact congrArg some (decide_eq_false (by omega)).symm
    · rw [if_neg h2]; exact congrArg some (decide_eq_false (by omega)).symm
  · rw [if_neg (by omega)]; exact congrArg some (decide_eq_false (by omega)).symm

def okRel (x : IRel) : Bool := okRel3 x.f0 x.f1 x.f2
theorem specValidRel_x (x : IRel) : spec_IsValidRelation.f x.f0 x.f1 x.f2 = some (okRel x) := specValidRel_f _ _ _
def okRels (l : List IRel) (i : Nat) : Nat → Bool
  | 0 => decide (l.length ≤ 6)
  | d + 1 => okRel (l.getD i z62) && (decide (i = 0) || Op.bytesLess (l.getD (i - 1) z62).f0.toList (l.getD i z62).f0.toList) && okRels l (i + 1) d
def validRels (l : List IRel) : Bool := okRels l 0 l.length
theorem rdR (l : List IRel) (i : Nat) : rd_T62 l (i : Int) = l.getD i z62 := by unfold rd_T62; rw [Int.toNat_natCast]
theorem specValidRels_ev (l : List IRel) (hl : l.length ≤ 140737488355328) : Ev (fun k => spec_AreValidRelations.f k l) (validRels l) := by
  have loop : ∀ (d i : Nat), i + d = l.length → Ev (fun k => spec_AreValidRelations.l0 k l i) (okRels l i d) := by
    intro d
    induction d with
    | zero =>
      intro i hi
      refine Ev.step (f := fun _ => some (okRels l i 0)) (fun k => ?_) (Ev.now _)
      rw [spec_AreValidRelations.l0, if_neg (by omega), okRels]; congr 1; simp; omega
    | succ d ih =>
      intro i hi
      have e := ih (i + 1) (by omega)
      refine Ev.step (f := fun k => if (okRel (l.getD i z62) && (decide (i = 0) || Op.bytesLess (l.getD (i - 1) z62).f0.toList (l.getD i z62).f0.toList)) = true then spec_AreValidRelations.l0 k l ((i + 1 : Nat) : Int) else some false) (fun k => ?_) ?_
      · rw [spec_AreValidRelations.l0, if_pos (by omega), if_pos (by omega), specValidRel_x, rdR, Option.bind_some, w64_succ (by omega)]
        by_cases c1 : okRel (l.getD i z62) = true
        · rw [if_pos c1]
          by_cases c2 : i = 0
          · rw [if_neg (by omega), if_pos]; rw [c1]; simp [c2]
          · rw [if_pos (by omega), w64 (by omega) (by omega), if_pos (by omega), if_pos (by omega), show ((i : Int) - 1) = ((i - 1 : Nat) : Int) by omega, rdR, c1, decide_eq_false c2, Bool.false_or, Bool.true_and]
        · rw [if_neg c1, if_neg]
          intro h
          simp only [Bool.and_eq_true] at h
          exact c1 h.1
      · rw [okRels]
        cases h : (okRel (l.getD i z62) && (decide (i = 0) || Op.bytesLess (l.getD (i - 1) z62).f0.toList (l.getD i z62).f0.toList)) with
        | true => simpa using e
        | false => simpa using Ev.now false
  exact Ev.congr (fun k => by rw [spec_AreValidRelations.f]; rfl) (loop l.length 0 (by omega))

theorem one_byte (s : ByteArray) (h : s.size = 1) : ∃ c : UInt8, s.toList = [c] ∧ bt s 0 = (c.toNat : Int) := by
  have hl : s.data.toList.length = 1 := by rw [data_length, h]
  match e : s.data.toList, hl with
  | [c], _ =>
    refine ⟨c, by rw [toList_data, e], ?_⟩
    have hb := rd_bytesOf s 0
    rw [← hb]
    unfold bytesOf rd
    rw [e]
    rfl
theorem less_one (c d : UInt8) : Op.bytesLess [c] [d] = decide ((c.toNat : Int) < d.toNat) := by
  simp only [Op.bytesLess, Bool.and_false, Bool.or_false]
  rw [Bool.eq_iff_iff]
  simp only [decide_eq_true_eq, UInt8.lt_iff_toNat_lt]
  omega
theorem implValidRel_f (a : ByteArray) (b : Int) (c : Bool) : impl_IsValidRelation.f a b c = some (okRel3 a b c) := by
  unfold impl_IsValidRelation.f okRel3
  by_cases h1 : a.size = 1
  · obtain ⟨x, hx, hb⟩ := one_byte a h1
    rw [if_pos (by omega), hx, less_one, less_one, within_f, Option.bind_some, hb]
    have e97 : ((97 : UInt8).toNat : Int) = 97 := rfl
    have e122 : ((122 : UInt8).toNat : Int) = 122 := rfl
    rw [e97, e122]
    by_cases h2 : ((x.toNat : Nat) : Int) < 97
    · rw [if_pos (by simpa using h2)]; exact congrArg some (decide_eq_false (by omega)).symm
    · rw [if_neg (by simpa using h2)]
      by_cases h3 : (122 : Int) < (x.toNat : Int)
      · rw [if_pos (by simpa using h3)]; exact congrArg some (decide_eq_false (by omega)).symm
      · rw [if_neg (by simpa using h3)]; exact congrArg some (decide_eq_decide.2 (by omega))
  · rw [if_neg (by omega)]; exact congrArg some (decide_eq_false (by omega)).symm

theorem implValidRel_x (x : IRel) : impl_IsValidRelation.f x.f0 x.f1 x.f2 = some (okRel x) := implValidRel_f _ _ _
theorem implValidRels_ev (l : List IRel) (hl : l.length ≤ 140737488355328) : Ev (fun k => impl_AreValidRelations.f k l) (validRels l) := by
  have loop : ∀ (d i : Nat), i + d = l.length → Ev (fun k => impl_AreValidRelations.l0 k l l l.length i) (okRels l i d) := by
    intro d
    induction d with
    | zero =>
      intro i hi
      refine Ev.step (f := fun _ => some (okRels l i 0)) (fun k => ?_) (Ev.now _)
      rw [impl_AreValidRelations.l0, if_neg (by omega), okRels]; congr 1; simp; omega
    | succ d ih =>
      intro i hi
      have e := ih (i + 1) (by omega)
      refine Ev.step (f := fun k => if (okRel (l.getD i z62) && (decide (i = 0) || Op.bytesLess (l.getD (i - 1) z62).f0.toList (l.getD i z62).f0.toList)) = true then impl_AreValidRelations.l0 k l l l.length ((i + 1 : Nat) : Int) else some false) (fun k => ?_) ?_
      · rw [impl_AreValidRelations.l0, if_pos (by omega), if_pos (by omega), if_pos (by omega), implValidRel_x, rdR, Option.bind_some, w64_succ (by omega)]
        by_cases c1 : okRel (l.getD i z62) = true
        · rw [if_pos c1]
          by_cases c2 : i = 0
          · rw [if_neg (by omega), if_pos]; rw [c1]; simp [c2]
          · rw [if_pos (by omega), w64 (by omega) (by omega), if_pos (by omega), if_pos (by omega), show ((i : Int) - 1) = ((i - 1 : Nat) : Int) by omega, rdR, c1, decide_eq_false c2, Bool.false_or, Bool.true_and]
        · rw [if_neg c1, if_neg]
          intro h
          simp only [Bool.and_eq_true] at h
          exact c1 h.1
      · rw [okRels]
        cases h : (okRel (l.getD i z62) && (decide (i = 0) || Op.bytesLess (l.getD (i - 1) z62).f0.toList (l.getD i z62).f0.toList)) with
        | true => simpa using e
        | false => simpa using Ev.now false
  exact Ev.congr (fun k => by rw [impl_AreValidRelations.f]; rfl) (loop l.length 0 (by omega))

def vv (x : Int) : Bool := decide (-40 ≤ x ∧ x ≤ 9)

theorem specNullNumber_f (x : Int) (h : GI x) : spec_NullNumber.f x = some (if -40 ≤ x ∧ x ≤ -1 then (-1 - x, true) else (0, false)) := by
  unfold GI at h
  unfold spec_NullNumber.f
  by_cases c : x ≥ 0
  · rw [if_pos c, if_neg (by omega)]
  · have e : wrap64 ((-1) - x) = -1 - x := w64 (by omega) (by omega)
    rw [if_neg c, e, l1In_f]
    simp only [Option.bind_some, decide_eq_true_eq]
    by_cases c2 : -40 ≤ x ∧ x ≤ -1
    · rw [if_pos c2, if_pos (by omega)]
    · rw [if_neg c2, if_neg (by omega)]

theorem implNullNumber_f (x : Int) (h : GI x) : impl_NullNumber.f x = some (if -40 ≤ x ∧ x ≤ -1 then (-1 - x, true) else (0, false)) := by
  unfold GI at h
  unfold impl_NullNumber.f
  rw [within_f]
  simp only [Option.bind_some, decide_eq_true_eq]
  have e : wrap64 ((-1) - x) = -1 - x := w64 (by omega) (by omega)
  rw [e]
  by_cases c2 : -40 ≤ x ∧ x ≤ -1
  · rw [if_pos c2, if_pos (by omega)]
  · rw [if_neg c2, if_neg (by omega)]

theorem specIsValidValue_f (x : Int) (h : GI x) : spec_IsValidValue.f x = some (vv x) := by
  unfold spec_IsValidValue.f vv
  rw [specNullNumber_f x h, Option.bind_some, l1In_f]
  by_cases c2 : -40 ≤ x ∧ x ≤ -1
  · rw [if_pos c2, if_pos rfl]; exact congrArg some (decide_eq_true (by omega)).symm
  · rw [if_neg c2, if_neg (by simp), Option.bind_some]; exact congrArg some (decide_eq_decide.2 (by omega))

theorem implIsValidValue_f (x : Int) : impl_IsValidValue.f x = some (vv x) := by
  unfold impl_IsValidValue.f vv
  rw [within_f, Option.bind_some]

theorem rdR1 (l : List IRel) (i : Int) : rd_T62 l i = l.getD i.toNat z62 := rfl
/-- A fact is valid over valid relations. -/
def validFact (l : List IRel) (r : Int) (v : List Int) : Bool :=
  validRels l && (decide (0 ≤ r ∧ r < l.length) && (decide ((v.length : Int) = (l.getD r.toNat z62).f1) && v.all vv))
theorem specValidFact_ev (l : List IRel) (r : Int) (v : List Int) (hl : l.length ≤ 1048576) (hv : v.length ≤ 1048576) (gv : ∀ x ∈ v, GI x) : Ev (fun k => spec_IsValidFact.f k l r v) (validFact l r v) := by
  have hf : ∀ b : Bool, Ev (fun k => spec_IsValidFact.j0 k b r v) (!b && v.all vv) := by
    intro b
    cases b with
    | true =>
      refine Ev.step (f := fun _ => some false) (fun k => ?_) (Ev.now _)
      rw [spec_IsValidFact.j0, if_pos rfl]
    | false =>
      have loop : ∀ (d i : Nat), i + d = v.length → Ev (fun k => spec_IsValidFact.l0 k i r v) ((v.drop i).all vv) := by
        intro d
        induction d with
        | zero =>
          intro i hi
          have e1 : v.drop i = [] := by rw [List.drop_eq_nil_iff]; omega
          rw [e1]
          refine Ev.step (f := fun _ => some true) (fun k => ?_) (Ev.now _)
          rw [spec_IsValidFact.l0, if_neg (by omega)]
        | succ d ih =>
          intro i hi
          rw [drop_get v i (by omega), List.all_cons]
          refine Ev.step (f := fun k => if vv v[i] = true then spec_IsValidFact.l0 k ((i + 1 : Nat) : Int) r v else some false) (fun k => ?_) ?_
          · rw [spec_IsValidFact.l0, if_pos (by omega), if_pos (by omega), rd_get v i (by omega), specIsValidValue_f _ (gv _ (List.getElem_mem (by omega))), Option.bind_some, w64_succ (by omega)]
          · cases h : vv v[i] with
            | true => simpa using ih (i + 1) (by omega)
            | false => simpa using Ev.now false
      refine Ev.step (f := fun k => spec_IsValidFact.l0 k 0 r v) (fun k => ?_) ?_
      · rw [spec_IsValidFact.j0, if_neg (by simp)]
      · have e := loop v.length 0 (by omega)
        simpa using e
  unfold validFact
  refine Ev.congr (fun k => by rw [spec_IsValidFact.f]) ?_
  refine Ev.bind (specValidRels_ev l (by omega)) ?_
  cases c1 : validRels l with
  | false => simpa using hf true
  | true =>
    simp only [if_true, Bool.true_and]
    refine Ev.congr (fun k => by rw [l1In_f, Option.bind_some, w64 (by omega) (by omega)]) ?_
    by_cases c2 : 0 ≤ r ∧ r < l.length
    · simp only [decide_eq_true (show 0 ≤ r ∧ r ≤ (l.length : Int) - 1 by omega), decide_eq_true c2, if_true, Bool.true_and, if_pos c2.1, if_pos c2.2]
      have e := hf ((v.length : Int) != (rd_T62 l r).f1)
      have e2 : (!((v.length : Int) != (rd_T62 l r).f1)) = decide ((v.length : Int) = (l.getD r.toNat z62).f1) := by
        rw [rdR1, Bool.eq_iff_iff]; simp
      rw [e2] at e
      exact e
    · simp only [decide_eq_false (show ¬ (0 ≤ r ∧ r ≤ (l.length : Int) - 1) by omega), decide_eq_false c2, Bool.false_eq_true, if_false, Bool.false_and]
      simpa using hf true

theorem containsBad_ev (v : List Int) (hv : v.length ≤ 1048576) : Ev (fun k => slices_ContainsFunc_int_int_cIsValidFact_1.f k v) (!v.all vv) := by
  have loop : ∀ (d i : Nat), i + d = v.length → ∃ r : Int, Ev (fun k => slices_IndexFunc_int_int_cIsValidFact_1.l0 k v v.length i) r ∧ decide (r ≥ 0) = !(v.drop i).all vv := by
    intro d
    induction d with
    | zero =>
      intro i hi
      have e1 : v.drop i = [] := by rw [List.drop_eq_nil_iff]; omega
      rw [e1]
      refine ⟨-1, Ev.step (f := fun _ => some (-1)) (fun k => ?_) (Ev.now _), by decide⟩
      rw [slices_IndexFunc_int_int_cIsValidFact_1.l0, if_neg (by omega)]
    | succ d ih =>
      intro i hi
      rw [drop_get v i (by omega), List.all_cons]
      have hstep : ∀ k, slices_IndexFunc_int_int_cIsValidFact_1.l0 (k + 1) v v.length i = if (!vv v[i]) = true then some (i : Int) else slices_IndexFunc_int_int_cIsValidFact_1.l0 k v v.length ((i + 1 : Nat) : Int) := fun k => by
        rw [slices_IndexFunc_int_int_cIsValidFact_1.l0, if_pos (by omega), if_pos (by omega), if_pos (by omega), rd_get v i (by omega), impl_IsValidFact_1.f, implIsValidValue_f, Option.bind_some, Option.bind_some, w64_succ (by omega)]
      cases h : vv v[i] with
      | true =>
        obtain ⟨r, er, hr⟩ := ih (i + 1) (by omega)
        refine ⟨r, Ev.step (f := fun k => slices_IndexFunc_int_int_cIsValidFact_1.l0 k v v.length ((i + 1 : Nat) : Int)) (fun k => by rw [hstep, h]; rfl) er, by rw [hr]; simp⟩
      | false =>
        exact ⟨i, Ev.step (f := fun _ => some (i : Int)) (fun k => by rw [hstep, h]; rfl) (Ev.now _), by simp⟩
  obtain ⟨r, er, hr⟩ := loop v.length 0 (by omega)
  rw [List.drop_zero] at hr
  rw [← hr]
  refine Ev.congr (fun k => by rw [slices_ContainsFunc_int_int_cIsValidFact_1.f, slices_IndexFunc_int_int_cIsValidFact_1.f]) ?_
  exact Ev.bind er (Ev.now _)
theorem implValidFact_ev (l : List IRel) (r : Int) (v : List Int) (hl : l.length ≤ 1048576) (hv : v.length ≤ 1048576) : Ev (fun k => impl_IsValidFact.f k l r v) (validFact l r v) := by
  unfold validFact
  refine Ev.congr (fun k => by rw [impl_IsValidFact.f]) ?_
  refine Ev.bind (implValidRels_ev l (by omega)) ?_
  cases c1 : validRels l with
  | false => simpa using Ev.now false
  | true =>
    simp only [if_true, Bool.true_and]
    refine Ev.congr (fun k => by rw [within_f, Option.bind_some, w64 (by omega) (by omega)]) ?_
    by_cases c2 : 0 ≤ r ∧ r < l.length
    · simp only [decide_eq_true (show 0 ≤ r ∧ r ≤ (l.length : Int) - 1 by omega), decide_eq_true c2, if_true, Bool.true_and, if_pos c2.1, if_pos c2.2]
      by_cases c3 : (v.length : Int) = (rd_T62 l r).f1
      · have c3' : (v.length : Int) = (l.getD r.toNat z62).f1 := c3
        simp only [c3, if_true]
        rw [← c3, decide_eq_true c3', Bool.true_and]
        refine Ev.bind (containsBad_ev v hv) ?_
        rw [Bool.not_not]
        exact Ev.now _
      · have c3' : ¬ (v.length : Int) = (l.getD r.toNat z62).f1 := c3
        simp only [c3, if_false]
        rw [decide_eq_false c3', Bool.false_and]
        exact Ev.now _
    · simp only [decide_eq_false (show ¬ (0 ≤ r ∧ r ≤ (l.length : Int) - 1) by omega), decide_eq_false c2, Bool.false_eq_true, if_false, Bool.false_and]
      exact Ev.now _

/-- Lists of numbers, value by value; a proper prefix is less. -/
def cmpL : List Int → List Int → Int
  | [], [] => 0
  | [], _ :: _ => -1
  | _ :: _, [] => 1
  | a :: l, b :: m => if a < b then -1 else if a > b then 1 else cmpL l m
theorem l4Ints_ev (a b : List Int) (ha : a.length ≤ 140737488355328) (hb : b.length ≤ 140737488355328) : Ev (fun k => spec_l4Ints.f k a b) (cmpL a b) := by
  have stop : ∀ i : Nat, i ≤ a.length → i ≤ b.length → (i = a.length ∨ i = b.length) → Ev (fun k => spec_l4Ints.j1 k a b i false) (cmpL (a.drop i) (b.drop i)) := by
    intro i h1 h2 h
    refine Ev.step (f := fun _ => some (cmpL (a.drop i) (b.drop i))) (fun k => ?_) (Ev.now _)
    rw [spec_l4Ints.j1, if_neg (by simp)]
    by_cases c1 : i = a.length
    · have e1 : a.drop i = [] := by rw [List.drop_eq_nil_iff]; omega
      rw [e1]
      by_cases c2 : i = b.length
      · have e2 : b.drop i = [] := by rw [List.drop_eq_nil_iff]; omega
        rw [e2, if_neg (by omega), if_neg (by omega)]; rfl
      · rw [drop_get b i (by omega), if_pos (by omega)]; rfl
    · have c2 : i = b.length := by omega
      have e2 : b.drop i = [] := by rw [List.drop_eq_nil_iff]; omega
      rw [e2, drop_get a i (by omega), if_neg (by omega), if_pos (by omega)]; rfl
  have loop : ∀ (d i : Nat), i + d = a.length → i ≤ b.length → Ev (fun k => spec_l4Ints.l0 k a b i) (cmpL (a.drop i) (b.drop i)) := by
    intro d
    induction d with
    | zero =>
      intro i hi hb'
      refine Ev.step (f := fun k => spec_l4Ints.j1 k a b i false) (fun k => ?_) (stop i (by omega) hb' (.inl (by omega)))
      rw [spec_l4Ints.l0, if_neg (by omega)]
    | succ d ih =>
      intro i hi hb'
      by_cases c : i < b.length
      · refine Ev.step (f := fun k => spec_l4Ints.j1 k a b i true) (fun k => ?_) ?_
        · rw [spec_l4Ints.l0, if_pos (by omega), decide_eq_true (by omega)]
        · refine Ev.step (f := fun k => if a[i] < b[i] then some (-1) else if a[i] > b[i] then some 1 else spec_l4Ints.l0 k a b ((i + 1 : Nat) : Int)) (fun k => ?_) ?_
          · rw [spec_l4Ints.j1, if_pos rfl, if_pos (by omega), if_pos (by omega), if_pos (by omega), rd_get a i (by omega), rd_get b i c, w64_succ (by omega)]
          · rw [drop_get a i (by omega), drop_get b i c, cmpL]
            by_cases c1 : a[i] < b[i]
            · simp only [c1, if_true]; exact Ev.now _
            · by_cases c2 : a[i] > b[i]
              · simp only [c1, c2, if_true, if_false]; exact Ev.now _
              · simp only [c1, c2, if_false]; exact ih (i + 1) (by omega) (by omega)
      · refine Ev.step (f := fun k => spec_l4Ints.j1 k a b i false) (fun k => ?_) (stop i (by omega) hb' (.inr (by omega)))
        rw [spec_l4Ints.l0, if_pos (by omega), decide_eq_false (by omega)]
  exact Ev.congr (fun k => by rw [spec_l4Ints.f]; rfl) (loop a.length 0 (by omega) (by omega))

def cmpF (r : Int) (a : List Int) (r' : Int) (b : List Int) : Int := if r < r' then -1 else if r > r' then 1 else cmpL a b
theorem specCompare_ev (r : Int) (a : List Int) (r' : Int) (b : List Int) (ha : a.length ≤ 140737488355328) (hb : b.length ≤ 140737488355328) : Ev (fun k => spec_CompareFacts.f k r a r' b) (cmpF r a r' b) := by
  refine Ev.congr (fun k => by rw [spec_CompareFacts.f]) ?_
  unfold cmpF
  by_cases c1 : r < r'
  · simp only [c1, if_true]; exact Ev.now _
  · by_cases c2 : r > r'
    · simp only [c1, c2, if_true, if_false]; exact Ev.now _
    · simp only [c1, c2, if_false]
      exact Ev.bind (l4Ints_ev a b ha hb) (Ev.now _)

def cmpI (a b : Int) : Int := if a < b then -1 else if a > b then 1 else 0
theorem cmpCompare_f (a b : Int) : cmp_Compare_int.f a b = some (cmpI a b) := by
  unfold cmp_Compare_int.f cmp_isNaN_int.f cmpI
  simp only [bne_self_eq_false, Option.bind_some, Bool.false_eq_true, if_false]
  split
  · rfl
  · split <;> rfl
theorem cmpI_zero (a b : Int) : cmpI a b = 0 ↔ a = b := by
  unfold cmpI
  split
  · omega
  · split <;> omega
theorem slicesCompare_ev (a b : List Int) (ha : a.length ≤ 140737488355328) (hb : b.length ≤ 140737488355328) : Ev (fun k => slices_Compare_int_int.f k a b) (cmpL a b) := by
  have loop : ∀ (d i : Nat), i + d = a.length → i ≤ b.length → Ev (fun k => slices_Compare_int_int.l0 k a b a a.length i) (cmpL (a.drop i) (b.drop i)) := by
    intro d
    induction d with
    | zero =>
      intro i hi hb'
      have e1 : a.drop i = [] := by rw [List.drop_eq_nil_iff]; omega
      rw [e1]
      by_cases c2 : i = b.length
      · have e2 : b.drop i = [] := by rw [List.drop_eq_nil_iff]; omega
        rw [e2]
        refine Ev.step (f := fun _ => some 0) (fun k => ?_) (Ev.now _)
        rw [slices_Compare_int_int.l0, if_neg (by omega), if_neg (by omega)]
      · rw [drop_get b i (by omega)]
        refine Ev.step (f := fun _ => some (-1)) (fun k => ?_) (Ev.now _)
        rw [slices_Compare_int_int.l0, if_neg (by omega), if_pos (by omega)]
    | succ d ih =>
      intro i hi hb'
      rw [drop_get a i (by omega)]
      by_cases c : i < b.length
      · rw [drop_get b i c]
        refine Ev.step (f := fun k => if cmpI a[i] b[i] = 0 then slices_Compare_int_int.l0 k a b a a.length ((i + 1 : Nat) : Int) else some (cmpI a[i] b[i])) (fun k => ?_) ?_
        · rw [slices_Compare_int_int.l0, if_pos (by omega), if_pos (by omega), if_pos (by omega), if_neg (by omega), if_pos (by omega), rd_get a i (by omega), rd_get b i c, cmpCompare_f, Option.bind_some, w64_succ (by omega)]
        · by_cases c0 : cmpI a[i] b[i] = 0
          · simp only [c0, if_true]
            have e := (cmpI_zero _ _).1 c0
            rw [cmpL, if_neg (by omega), if_neg (by omega)]
            exact ih (i + 1) (by omega) (by omega)
          · simp only [c0, if_false]
            have e : cmpL (a[i] :: a.drop (i + 1)) (b[i] :: b.drop (i + 1)) = cmpI a[i] b[i] := by
              have h := (not_congr (cmpI_zero _ _)).1 c0
              rw [cmpL]; unfold cmpI
              by_cases c1 : a[i] < b[i]
              · rw [if_pos c1, if_pos c1]
              · rw [if_neg c1, if_neg c1, if_pos (by omega), if_pos (by omega)]
            rw [e]; exact Ev.now _
      · have e2 : b.drop i = [] := by rw [List.drop_eq_nil_iff]; omega
        rw [e2]
        refine Ev.step (f := fun _ => some 1) (fun k => ?_) (Ev.now _)
        rw [slices_Compare_int_int.l0, if_pos (by omega), if_pos (by omega), if_pos (by omega), if_pos (by omega)]
  exact Ev.congr (fun k => by rw [slices_Compare_int_int.f]; rfl) (loop a.length 0 (by omega) (by omega))
theorem cmpOr_ev (x y : Int) : Ev (fun k => cmp_Or_int.f k [x, y]) (if x = 0 then y else x) := by
  refine Ev.congr (fun k => by rw [cmp_Or_int.f]) ?_
  by_cases c : x = 0
  · rw [if_pos c]
    refine Ev.step (f := fun k => cmp_Or_int.l0 k 0 [x, y] 2 1) (fun k => ?_) ?_
    · rw [cmp_Or_int.l0, if_pos (by simp), if_pos (by omega), if_pos (by simp)]
      rw [show rd [x, y] 0 = x from rfl, if_pos c, w64 (by omega) (by omega)]; rfl
    · by_cases c2 : y = 0
      · refine Ev.step (f := fun k => cmp_Or_int.l0 k 0 [x, y] 2 2) (fun k => ?_) (Ev.step (f := fun _ => some y) (fun k => ?_) (Ev.now _))
        · rw [cmp_Or_int.l0, if_pos (by omega), if_pos (by omega), if_pos (by simp)]
          rw [show rd [x, y] 1 = y from rfl, if_pos c2, w64 (by omega) (by omega)]; rfl
        · rw [cmp_Or_int.l0, if_neg (by omega), c2]
      · refine Ev.step (f := fun _ => some y) (fun k => ?_) (Ev.now _)
        rw [cmp_Or_int.l0, if_pos (by omega), if_pos (by omega), if_pos (by simp)]
        rw [show rd [x, y] 1 = y from rfl, if_neg c2]
  · rw [if_neg c]
    refine Ev.step (f := fun _ => some x) (fun k => ?_) (Ev.now _)
    rw [cmp_Or_int.l0, if_pos (by simp), if_pos (by omega), if_pos (by simp)]
    rw [show rd [x, y] 0 = x from rfl, if_neg c]
theorem implCompare_ev (r : Int) (a : List Int) (r' : Int) (b : List Int) (ha : a.length ≤ 140737488355328) (hb : b.length ≤ 140737488355328) : Ev (fun k => impl_CompareFacts.f k r a r' b) (cmpF r a r' b) := by
  refine Ev.congr (fun k => by rw [impl_CompareFacts.f, cmpCompare_f, Option.bind_some]) ?_
  refine Ev.bind (slicesCompare_ev a b ha hb) ?_
  have h := cmpOr_ev (cmpI r r') (cmpL a b)
  have e : (if cmpI r r' = 0 then cmpL a b else cmpI r r') = cmpF r a r' b := by
    unfold cmpF cmpI
    by_cases c1 : r < r'
    · simp [c1]
    · by_cases c2 : r > r'
      · simp [c1, c2]
      · simp [c1, c2]
  rw [e] at h
  exact Ev.bind h (Ev.now _)

/-- Put into an ascending list, each once. -/
def insU (x : Int) : List Int → List Int
  | [] => [x]
  | y :: l => if y < x then y :: insU x l else if y = x then y :: l else x :: y :: l
theorem mem_insU (x z : Int) : ∀ l : List Int, z ∈ insU x l ↔ z = x ∨ z ∈ l
  | [] => by simp [insU]
  | y :: l => by
    unfold insU
    by_cases c : y < x
    · rw [if_pos c, List.mem_cons, List.mem_cons, mem_insU x z l]
      constructor <;> rintro (h | h | h) <;> simp [h]
    · rw [if_neg c]
      by_cases c2 : y = x
      · rw [if_pos c2]; subst c2; simp
      · rw [if_neg c2]; simp
theorem insU_up (x : Int) : ∀ l : List Int, l.Pairwise (· < ·) → (insU x l).Pairwise (· < ·)
  | [], _ => by simp [insU]
  | y :: l, h => by
    rw [List.pairwise_cons] at h
    unfold insU
    by_cases c : y < x
    · rw [if_pos c, List.pairwise_cons]
      refine ⟨fun z hz => ?_, insU_up x l h.2⟩
      rcases (mem_insU x z l).1 hz with rfl | hz
      · exact c
      · exact h.1 z hz
    · rw [if_neg c]
      by_cases c2 : y = x
      · rw [if_pos c2, List.pairwise_cons]; exact h
      · rw [if_neg c2, List.pairwise_cons, List.pairwise_cons]
        refine ⟨fun z hz => ?_, h⟩
        rcases List.mem_cons.1 hz with rfl | hz
        · omega
        · have := h.1 z hz; omega
theorem insU_len (x : Int) : ∀ l : List Int, (insU x l).length ≤ l.length + 1
  | [] => by simp [insU]
  | y :: l => by
    have := insU_len x l
    unfold insU
    split
    · simp; omega
    · split <;> simp
/-- Two ascending lists with the same elements are one. -/
theorem up_ext : ∀ a b : List Int, a.Pairwise (· < ·) → b.Pairwise (· < ·) → (∀ x, x ∈ a ↔ x ∈ b) → a = b
  | [], [], _, _, _ => rfl
  | [], y :: b, _, _, h => absurd ((h y).2 (by simp)) (by simp)
  | x :: a, [], _, _, h => absurd ((h x).1 (by simp)) (by simp)
  | x :: a, y :: b, ha, hb, h => by
    rw [List.pairwise_cons] at ha hb
    have e : x = y := by
      rcases List.mem_cons.1 ((h x).1 (by simp)) with e | hx
      · exact e
      · rcases List.mem_cons.1 ((h y).2 (by simp)) with e | hy
        · exact e.symm
        · have h1 := hb.1 x hx
          have h2 := ha.1 y hy
          omega
    subst e
    rw [up_ext a b ha.2 hb.2 (fun z => ?_)]
    constructor
    · intro hz
      rcases List.mem_cons.1 ((h z).1 (List.mem_cons_of_mem _ hz)) with e | hz'
      · have := ha.1 z hz; omega
      · exact hz'
    · intro hz
      rcases List.mem_cons.1 ((h z).2 (List.mem_cons_of_mem _ hz)) with e | hz'
      · have := hb.1 z hz; omega
      · exact hz'
/-- An array in order, of which neighbours that are equal go: ascending, each once. -/
theorem compactUpTo_up (d : Array Int) (hs : ∀ i j, i < j → j < d.size → d[i]! ≤ d[j]!) : ∀ m, m ≤ d.size → (Go.Lib.compactUpTo d m).Pairwise (· < ·) ∧ (∀ x, x ∈ Go.Lib.compactUpTo d m ↔ ∃ j, j < m ∧ d[j]! = x) := by
  intro m
  induction m with
  | zero => intro _; simp [Go.Lib.compactUpTo]
  | succ m ih =>
    intro hm
    obtain ⟨h1, h2⟩ := ih (by omega)
    rw [Go.Lib.compactUpTo_succ]
    by_cases c : Go.Lib.keeps d m = true
    · rw [if_pos c]
      have hk : m = 0 ∨ d[m]! ≠ d[m - 1]! := by simpa [Go.Lib.keeps] using c
      refine ⟨?_, fun x => ?_⟩
      · rw [List.pairwise_append]
        refine ⟨h1, by simp, fun x hx y hy => ?_⟩
        obtain rfl : y = d[m]! := by simpa using hy
        obtain ⟨j, hj, rfl⟩ := (h2 x).1 hx
        rcases hk with hk | hk
        · omega
        · have a1 : d[m - 1]! ≤ d[m]! := hs (m - 1) m (by omega) (by omega)
          have a2 : d[j]! ≤ d[m - 1]! := by
            by_cases e : j = m - 1
            · rw [e]; exact Int.le_refl _
            · exact hs j (m - 1) (by omega) (by omega)
          omega
      · rw [List.mem_append, h2]
        constructor
        · rintro (⟨j, hj, e⟩ | h)
          · exact ⟨j, by omega, e⟩
          · exact ⟨m, by omega, (List.mem_singleton.1 h).symm⟩
        · rintro ⟨j, hj, e⟩
          by_cases c2 : j = m
          · subst c2; exact .inr (by simp [e])
          · exact .inl ⟨j, by omega, e⟩
    · rw [if_neg c, List.append_nil]
      refine ⟨h1, fun x => ?_⟩
      have hk : ¬ (m = 0 ∨ d[m]! ≠ d[m - 1]!) := by simpa [Go.Lib.keeps] using c
      have hm0 : m ≠ 0 := fun e => hk (.inl e)
      have he : d[m]! = d[m - 1]! := by
        by_cases e : d[m]! = d[m - 1]!
        · exact e
        · exact absurd (.inr e) hk
      rw [h2]
      constructor
      · rintro ⟨j, hj, e⟩; exact ⟨j, by omega, e⟩
      · rintro ⟨j, hj, e⟩
        by_cases c2 : j = m
        · subst c2; exact ⟨j - 1, by omega, by rw [← he]; exact e⟩
        · exact ⟨j, by omega, e⟩
/-- Sorted, then made sparse: what the two library calls come to. -/
def sortU (l : List Int) : List Int := Go.Lib.compact (l.mergeSort fun x y => decide (x ≤ y))
theorem sortU_up (l : List Int) : (sortU l).Pairwise (· < ·) ∧ ∀ x, x ∈ sortU l ↔ x ∈ l := by
  have hp := List.mergeSort_perm l (fun x y : Int => decide (x ≤ y))
  have ho : (l.mergeSort fun x y : Int => decide (x ≤ y)).Pairwise (fun x y => decide (x ≤ y) = true) := List.pairwise_mergeSort (fun a b c h1 h2 => by simp at *; omega) (fun a b => by simp; omega) l
  unfold sortU
  generalize hs : (l.mergeSort fun x y : Int => decide (x ≤ y)) = s at hp ho
  have hg : ∀ j, (h : j < s.length) → (s.toArray)[j]! = s[j] := fun j h => by simp [h]
  have h := compactUpTo_up s.toArray (fun i j hij hj => by
    have hj' : j < s.length := by simpa using hj
    rw [hg i (by omega), hg j hj']
    have := (List.pairwise_iff_getElem.1 ho) i j (by omega) hj' hij
    simpa using this) s.length (by simp)
  refine ⟨h.1, fun x => ?_⟩
  unfold Go.Lib.compact
  rw [h.2]
  rw [← hp.mem_iff]
  constructor
  · rintro ⟨j, hj, e⟩
    rw [hg j hj] at e
    exact e ▸ List.getElem_mem hj
  · intro hx
    obtain ⟨j, hj, e⟩ := List.mem_iff_getElem.1 hx
    exact ⟨j, hj, by rw [hg j hj]; exact e⟩
def isN (v : Int) : Bool := decide (-40 ≤ v ∧ v ≤ -1)
/-- The numbers of the nulls among values, as they come. -/
def nullsIn (l : List Int) : List Int := (l.filter isN).map (fun v => -1 - v)
/-- .. each once, ascending. -/
def nullsS (l : List Int) : List Int := sortU (nullsIn l)
theorem mem_nullsIn (l : List Int) (k : Int) : k ∈ nullsIn l ↔ (0 ≤ k ∧ k ≤ 39) ∧ (-1 - k) ∈ l := by
  unfold nullsIn isN
  rw [List.mem_map]
  constructor
  · rintro ⟨v, hv, rfl⟩
    rw [List.mem_filter, decide_eq_true_eq] at hv
    exact ⟨by omega, by rw [show -1 - (-1 - v) = v by omega]; exact hv.1⟩
  · rintro ⟨h1, h2⟩
    exact ⟨-1 - k, List.mem_filter.2 ⟨h2, by rw [decide_eq_true_eq]; omega⟩, by omega⟩
/-- An ascending list with just these elements is it. -/
theorem nullsS_unique (l out : List Int) (hu : out.Pairwise (· < ·)) (hm : ∀ k, k ∈ out ↔ k ∈ nullsIn l) : out = nullsS l := by
  obtain ⟨h1, h2⟩ := sortU_up (nullsIn l)
  exact up_ext _ _ hu h1 (fun k => by rw [hm, ← h2]; rfl)
theorem up_len : ∀ (l : List Int) (a : Int) (b : Nat), l.Pairwise (· < ·) → (∀ x ∈ l, a ≤ x ∧ x < a + b) → l.length ≤ b
  | [], _, _, _, _ => Nat.zero_le _
  | x :: l, a, b, h, hb => by
    rw [List.pairwise_cons] at h
    have hx := hb x (by simp)
    have := up_len l (x + 1) ((a + b - (x + 1)).toNat) h.2 (fun y hy => by
      have h1 := h.1 y hy
      have h2 := hb y (List.mem_cons_of_mem _ hy)
      omega)
    simp only [List.length_cons]
    omega
theorem nullsS_props (l : List Int) : (nullsS l).Pairwise (· < ·) ∧ (nullsS l).length ≤ 40 ∧ ∀ k ∈ nullsS l, 0 ≤ k ∧ k ≤ 39 := by
  obtain ⟨h1, h2⟩ := sortU_up (nullsIn l)
  have h3 : ∀ k ∈ nullsS l, 0 ≤ k ∧ k ≤ 39 := fun k hk => ((mem_nullsIn l k).1 ((h2 k).1 hk)).1
  exact ⟨h1, up_len _ 0 40 h1 (fun x hx => by have := h3 x hx; omega), h3⟩

theorem insU_at : ∀ (l : List Int) (x : Int) (i : Nat), (∀ j, (h : j < l.length) → j < i → l[j] < x) → (hi : i < l.length) → x < l[i] → insU x l = l.take i ++ x :: l.drop i
  | y :: l, x, 0, _, _, h => by
    have h' : x < y := h
    unfold insU
    rw [if_neg (by omega), if_neg (by omega)]
    rfl
  | y :: l, x, i + 1, hj, hi, h => by
    have h0 : y < x := hj 0 (by simp) (by omega)
    unfold insU
    rw [if_pos h0, insU_at l x i (fun j h1 h2 => hj (j + 1) (by simp; omega) (by omega)) (by simpa using hi) h]
    rfl
theorem insU_same : ∀ (l : List Int) (x : Int) (i : Nat), (∀ j, (h : j < l.length) → j < i → l[j] < x) → (hi : i < l.length) → l[i] = x → insU x l = l
  | y :: l, x, 0, _, _, h => by
    have h' : y = x := h
    unfold insU
    rw [if_neg (by omega), if_pos h']
  | y :: l, x, i + 1, hj, hi, h => by
    have h0 : y < x := hj 0 (by simp) (by omega)
    unfold insU
    rw [if_pos h0, insU_same l x i (fun j h1 h2 => hj (j + 1) (by simp; omega) (by omega)) (by simpa using hi) h]
theorem insU_end : ∀ (l : List Int) (x : Int), (∀ j, (h : j < l.length) → l[j] < x) → insU x l = l ++ [x]
  | [], x, _ => rfl
  | y :: l, x, hj => by
    have h0 : y < x := hj 0 (by simp)
    unfold insU
    rw [if_pos h0, insU_end l x (fun j h => hj (j + 1) (by simp; omega))]
    rfl
theorem l4Put_ev (l : List Int) (x : Int) (hl : l.length ≤ 1048576) : Ev (fun k => spec_l4Put.f k l x) (insU x l) := by
  have loop : ∀ (d i : Nat), i + d = l.length → (∀ j, (h : j < l.length) → j < i → l[j] < x) → Ev (fun k => spec_l4Put.l0 k l x i) (insU x l) := by
    intro d
    induction d with
    | zero =>
      intro i hi hj
      refine Ev.step (f := fun _ => some (insU x l)) (fun k => ?_) (Ev.now _)
      rw [spec_l4Put.l0, if_neg (by omega), insU_end l x (fun j h => hj j h (by omega))]
      obtain rfl : i = l.length := by omega
      simp only [Option.bind_some, Int.toNat_natCast, List.drop_length, List.take_length, List.nil_append, List.append_nil]
      rw [if_pos (by omega), if_pos (by omega), if_pos (by simp), if_pos (by simp; omega), if_pos (by simp; omega)]
    | succ d ih =>
      intro i hi hj
      have h1 : i < l.length := by omega
      by_cases c : l[i] < x
      · refine Ev.step (fun k => by rw [spec_l4Put.l0, if_pos (by omega), if_pos (by omega), rd_get l i h1, if_pos c, w64_succ (by omega)]) (ih (i + 1) (by omega) (fun j h h2 => ?_))
        by_cases e : j = i
        · subst e; exact c
        · exact hj j h (by omega)
      · by_cases c2 : l[i] = x
        · refine Ev.step (f := fun _ => some (insU x l)) (fun k => ?_) (Ev.now _)
          rw [spec_l4Put.l0, if_pos (by omega), if_pos (by omega), rd_get l i h1, if_neg c, if_pos c2, insU_same l x i hj h1 c2]
        · refine Ev.step (f := fun _ => some (insU x l)) (fun k => ?_) (Ev.now _)
          rw [spec_l4Put.l0, if_pos (by omega), if_pos (by omega), rd_get l i h1, if_neg c, if_neg c2, insU_at l x i hj h1 (by omega)]
          simp only [Option.bind_some, Int.toNat_natCast, List.nil_append]
          rw [if_pos (by omega), if_pos (by simp; omega), if_pos (by simp; omega), if_pos (by simp; omega)]
          simp
  refine Ev.congr (fun k => by rw [spec_l4Put.f]; rfl) (loop l.length 0 (by omega) (fun j h h2 => by omega))

theorem specNulls_ev (r : Int) (l : List Int) (hl : l.length ≤ 1048576) (gl : ∀ x ∈ l, GI x) : Ev (fun k => spec_NullsOfFact.f k r l) (nullsS l) := by
  have loop : ∀ (d i : Nat) (out : List Int), i + d = l.length → out.Pairwise (· < ·) → (∀ k, k ∈ out ↔ k ∈ nullsIn (l.take i)) → Ev (fun k => spec_NullsOfFact.l0 k out i r l) (nullsS l) := by
    intro d
    induction d with
    | zero =>
      intro i out hi hu hm
      refine Ev.step (f := fun _ => some (nullsS l)) (fun k => ?_) (Ev.now _)
      rw [List.take_of_length_le (by omega)] at hm
      rw [spec_NullsOfFact.l0, if_neg (by omega), nullsS_unique l out hu hm]
    | succ d ih =>
      intro i out hi hu hm
      have h1 : i < l.length := by omega
      have e := specNullNumber_f l[i] (gl _ (List.getElem_mem h1))
      have hlen : out.length ≤ 40 := up_len out 0 40 hu (fun x hx => by have := ((mem_nullsIn _ x).1 ((hm x).1 hx)).1; omega)
      have hm2 : ∀ k, k ∈ nullsIn (l.take (i + 1)) ↔ (k ∈ nullsIn (l.take i) ∨ ((0 ≤ k ∧ k ≤ 39) ∧ -1 - k = l[i])) := by
        intro k
        rw [mem_nullsIn, mem_nullsIn, List.take_succ_eq_append_getElem h1, List.mem_append, List.mem_singleton]
        constructor
        · rintro ⟨a, b | b⟩
          · exact .inl ⟨a, b⟩
          · exact .inr ⟨a, b⟩
        · rintro (⟨a, b⟩ | ⟨a, b⟩)
          · exact ⟨a, .inl b⟩
          · exact ⟨a, .inr b⟩
      by_cases c : -40 ≤ l[i] ∧ l[i] ≤ -1
      · rw [if_pos c] at e
        refine Ev.step (fun k => by rw [spec_NullsOfFact.l0, if_pos (by omega), if_pos (by omega), rd_get l i h1, e, Option.bind_some, if_pos rfl, w64_succ (by omega)]) (Ev.bind (l4Put_ev out (-1 - l[i]) (by omega)) (ih (i + 1) _ (by omega) (insU_up _ _ hu) (fun k => ?_)))
        rw [mem_insU, hm, hm2]
        constructor
        · rintro (h | h)
          · exact .inr ⟨by omega, by omega⟩
          · exact .inl h
        · rintro (h | h)
          · exact .inr h
          · exact .inl (by omega)
      · rw [if_neg c] at e
        refine Ev.step (fun k => by rw [spec_NullsOfFact.l0, if_pos (by omega), if_pos (by omega), rd_get l i h1, e, Option.bind_some, if_neg (by simp), w64_succ (by omega)]) (ih (i + 1) _ (by omega) hu (fun k => ?_))
        rw [hm, hm2]
        constructor
        · exact .inl
        · rintro (h | h)
          · exact h
          · omega
  exact Ev.congr (fun k => by rw [spec_NullsOfFact.f]; rfl) (loop l.length 0 [] (by omega) (by simp) (by simp [nullsIn]))
theorem implNullsOf_ev (l : List Int) (hl : l.length ≤ 1099511627775) (gl : ∀ x ∈ l, GI x) : Ev (fun k => impl_nullsOf.f k l) (nullsS l) := by
  have loop : ∀ (d i : Nat), i + d = l.length → Ev (fun k => impl_nullsOf.l0 k (nullsIn (l.take i)) l l.length i) (nullsS l) := by
    intro d
    induction d with
    | zero =>
      intro i hi
      refine Ev.step (f := fun _ => some (nullsS l)) (fun k => ?_) (Ev.now _)
      have hb : (nullsIn l).length ≤ l.length := by unfold nullsIn; rw [List.length_map]; exact List.length_filter_le _ _
      rw [impl_nullsOf.l0, if_neg (by omega), List.take_of_length_le (by omega), slices_Sort_int_int.f, if_pos (by omega), Option.bind_some, slices_Compact_int_int.f, if_pos (by rw [List.length_mergeSort]; omega)]
      rfl
    | succ d ih =>
      intro i hi
      have h1 : i < l.length := by omega
      have e := implNullNumber_f l[i] (gl _ (List.getElem_mem h1))
      have hb : (nullsIn (l.take i)).length ≤ i := by
        unfold nullsIn
        rw [List.length_map]
        exact Nat.le_trans (List.length_filter_le _ _) (by simp; omega)
      have ihx := ih (i + 1) (by omega)
      by_cases c : -40 ≤ l[i] ∧ l[i] ≤ -1
      · rw [if_pos c] at e
        have en : nullsIn (l.take (i + 1)) = nullsIn (l.take i) ++ [-1 - l[i]] := by
          unfold nullsIn
          rw [List.take_succ_eq_append_getElem h1, List.filter_append, List.map_append]
          simp [isN, c]
        rw [en] at ihx
        exact Ev.step (fun k => by rw [impl_nullsOf.l0, if_pos (by omega), if_pos (by omega), if_pos (by omega), rd_get l i h1, e, Option.bind_some, if_pos rfl, if_pos (by omega), w64_succ (by omega)]) ihx
      · rw [if_neg c] at e
        have en : nullsIn (l.take (i + 1)) = nullsIn (l.take i) := by
          unfold nullsIn
          rw [List.take_succ_eq_append_getElem h1, List.filter_append, List.map_append]
          simp [isN, c]
        rw [en] at ihx
        exact Ev.step (fun k => by rw [impl_nullsOf.l0, if_pos (by omega), if_pos (by omega), if_pos (by omega), rd_get l i h1, e, Option.bind_some, if_neg (by simp), w64_succ (by omega)]) ihx
  exact Ev.congr (fun k => by rw [impl_nullsOf.f]; rfl) (loop l.length 0 (by omega))

/-- No null in a fact of a source relation. -/
def srcOk (q : List IRel) (x : IFact) : Bool := !((q.getD x.f0.toNat z62).f2 && decide (0 < (nullsS x.f1).length))
/-- From place i on: each fact is valid, above the one before it, and has no null if its relation is a source. -/
def okInst (q : List IRel) (l : List IFact) (i : Nat) : Nat → Bool
  | 0 => true
  | d + 1 => validFact q (l.getD i z44).f0 (l.getD i z44).f1 && ((decide (i = 0) || decide (cmpF (l.getD (i - 1) z44).f0 (l.getD (i - 1) z44).f1 (l.getD i z44).f0 (l.getD i z44).f1 < 0)) && (srcOk q (l.getD i z44) && okInst q l (i + 1) d))
def validInst (q : List IRel) (l : List IFact) : Bool := okInst q l 0 l.length && (validRels q && decide (l.length ≤ 30))
def GF (x : IFact) : Prop := GI x.f0 ∧ ∀ y ∈ x.f1, GI y
theorem getDF (l : List IFact) (i : Nat) (h : i < l.length) : l.getD i z44 = l[i] := by have := getD_get l z44 i h; rwa [Int.toNat_natCast] at this
theorem specValidInst_ev (q : List IRel) (l : List IFact) (hq : q.length ≤ 1048576) (hl : l.length ≤ 1048576) (hf : ∀ x ∈ l, x.f1.length ≤ 1048576) (gf : ∀ x ∈ l, GF x) : Ev (fun k => spec_IsValidInstance.f k q l) (validInst q l) := by
  have loop : ∀ (d i : Nat), i + d = l.length → Ev (fun k => spec_IsValidInstance.l0 k i q l) (okInst q l i d && (validRels q && decide (l.length ≤ 30))) := by
    intro d
    induction d with
    | zero =>
      intro i hi
      refine Ev.step (fun k => by rw [spec_IsValidInstance.l0, if_neg (by omega)]) (Ev.bind (specValidRels_ev q (by omega)) ?_)
      rw [okInst, Bool.true_and]
      cases validRels q with
      | false => simp only [Bool.false_eq_true, if_false, Bool.false_and]; exact Ev.now _
      | true =>
        simp only [if_true, Bool.true_and]
        refine Ev.congr (fun k => ?_) (Ev.now (decide (l.length ≤ 30)))
        rw [show decide ((l.length : Int) ≤ 30) = decide (l.length ≤ 30) from decide_eq_decide.2 (by omega)]
    | succ d ih =>
      intro i hi
      have h1 : i < l.length := by omega
      have hx := hf l[i] (List.getElem_mem h1)
      have gx := gf l[i] (List.getElem_mem h1)
      have ihx := ih (i + 1) (by omega)
      rw [okInst, getDF l i h1]
      have hsrc : validFact q l[i].f0 l[i].f1 = true → Ev (fun k => if 0 ≤ l[i].f0 then (if l[i].f0 < (q.length : Int) then (if (rd_T62 q l[i].f0).f2 = true then ((spec_NullsOfFact.f k l[i].f0 l[i].f1).bind fun t => (if (t.length : Int) > 0 then (some false) else (spec_IsValidInstance.l0 k ((i + 1 : Nat) : Int) q l))) else (spec_IsValidInstance.l0 k ((i + 1 : Nat) : Int) q l)) else none) else none) (srcOk q l[i] && (okInst q l (i + 1) d && (validRels q && decide (l.length ≤ 30)))) := by
        intro hv
        unfold validFact at hv
        simp only [Bool.and_eq_true, decide_eq_true_eq] at hv
        refine Ev.congr (fun k => by rw [if_pos hv.2.1.1, if_pos hv.2.1.2, rdR1]) ?_
        unfold srcOk
        cases (q.getD l[i].f0.toNat z62).f2 with
        | false => simpa using ihx
        | true =>
          simp only [if_true, Bool.true_and]
          refine Ev.bind (specNulls_ev l[i].f0 l[i].f1 hx gx.2) ?_
          by_cases c : 0 < (nullsS l[i].f1).length
          · rw [decide_eq_true c]
            refine Ev.congr (fun k => by rw [if_pos (by omega)]; rfl) (Ev.now _)
          · rw [decide_eq_false c]
            refine Ev.congr (fun k => by rw [if_neg (by omega)]) ?_
            simpa using ihx
      refine Ev.step (fun k => by rw [spec_IsValidInstance.l0, if_pos (by omega), if_pos (by omega), rdF l i h1, w64_succ (by omega)]) (Ev.bind (specValidFact_ev q l[i].f0 l[i].f1 hq hx gx.2) ?_)
      cases hv : validFact q l[i].f0 l[i].f1 with
      | false => simp only [Bool.false_eq_true, if_false, Bool.false_and]; exact Ev.now _
      | true =>
        have hs := hsrc hv
        simp only [if_true, Bool.true_and]
        by_cases c0 : i = 0
        · refine Ev.congr (fun k => by rw [if_neg (by omega)]) ?_
          rw [decide_eq_true c0, Bool.true_or, Bool.true_and, Bool.and_assoc]
          exact hs
        · have h2 : i - 1 < l.length := by omega
          have e1 : (i : Int) - 1 = ((i - 1 : Nat) : Int) := by omega
          rw [decide_eq_false c0, Bool.false_or, getDF l (i - 1) h2]
          refine Ev.congr (fun k => by rw [if_pos (by omega), w64 (by omega) (by omega), if_pos (by omega), if_pos (by omega), e1, rdF l (i - 1) h2]) (Ev.bind (specCompare_ev _ _ _ _ (Nat.le_trans (hf _ (List.getElem_mem h2)) (by omega)) (by omega)) ?_)
          by_cases c : cmpF l[i - 1].f0 l[i - 1].f1 l[i].f0 l[i].f1 < 0
          · rw [decide_eq_true c, Bool.true_and, Bool.and_assoc]
            exact Ev.congr (fun k => by rw [if_neg (by omega)]) hs
          · rw [decide_eq_false c, Bool.false_and, Bool.false_and]
            exact Ev.congr (fun k => by rw [if_pos (by omega)]) (Ev.now _)
  exact Ev.congr (fun k => by rw [spec_IsValidInstance.f]; rfl) (loop l.length 0 (by omega))
theorem implNullsFact_ev (r : Int) (l : List Int) (hl : l.length ≤ 1048576) (gl : ∀ x ∈ l, GI x) : Ev (fun k => impl_NullsOfFact.f k r l) (nullsS l) :=
  Ev.congr (fun k => by rw [impl_NullsOfFact.f]) (Ev.bind (implNullsOf_ev l (by omega) gl) (Ev.now _))
theorem implValidInst_ev (q : List IRel) (l : List IFact) (hq : q.length ≤ 1048576) (hl : l.length ≤ 1048576) (hf : ∀ x ∈ l, x.f1.length ≤ 1048576) (gf : ∀ x ∈ l, GF x) : Ev (fun k => impl_IsValidInstance.f k q l) (validInst q l) := by
  have loop : ∀ (d i : Nat), i + d = l.length → Ev (fun k => impl_IsValidInstance.l0 k l l.length i q l) (okInst q l i d) := by
    intro d
    induction d with
    | zero =>
      intro i hi
      refine Ev.step (f := fun _ => some true) (fun k => ?_) (Ev.now _)
      rw [impl_IsValidInstance.l0, if_neg (by omega)]
    | succ d ih =>
      intro i hi
      have h1 : i < l.length := by omega
      have hx := hf l[i] (List.getElem_mem h1)
      have gx := gf l[i] (List.getElem_mem h1)
      have ihx := ih (i + 1) (by omega)
      rw [okInst, getDF l i h1]
      have hbad : Ev (fun k => impl_IsValidInstance.j2 k l l.length i true q l l[i].f0 l[i].f1) false := by
        refine Ev.step (f := fun _ => some false) (fun k => ?_) (Ev.now _)
        rw [impl_IsValidInstance.j2, if_pos rfl]
      have hsrc : validFact q l[i].f0 l[i].f1 = true → Ev (fun k => impl_IsValidInstance.j2 k l l.length i false q l l[i].f0 l[i].f1) (srcOk q l[i] && okInst q l (i + 1) d) := by
        intro hv
        unfold validFact at hv
        simp only [Bool.and_eq_true, decide_eq_true_eq] at hv
        refine Ev.step (fun k => by rw [impl_IsValidInstance.j2, if_neg (by simp), if_pos hv.2.1.1, if_pos hv.2.1.2, rdR1, w64_succ (by omega)]) ?_
        unfold srcOk
        cases (q.getD l[i].f0.toNat z62).f2 with
        | false => simpa using ihx
        | true =>
          simp only [if_true, Bool.true_and]
          refine Ev.bind (implNullsFact_ev l[i].f0 l[i].f1 hx gx.2) ?_
          by_cases c : 0 < (nullsS l[i].f1).length
          · rw [decide_eq_true c]
            refine Ev.congr (fun k => by rw [if_pos (by omega)]; rfl) (Ev.now _)
          · rw [decide_eq_false c]
            refine Ev.congr (fun k => by rw [if_neg (by omega)]) ?_
            simpa using ihx
      refine Ev.step (fun k => by rw [impl_IsValidInstance.l0, if_pos (by omega), if_pos (by omega), if_pos (by omega), rdF l i h1]) (Ev.bind (implValidFact_ev q l[i].f0 l[i].f1 hq hx) ?_)
      cases hv : validFact q l[i].f0 l[i].f1 with
      | false => simp only [Bool.false_eq_true, if_false, Bool.false_and]; exact hbad
      | true =>
        have hs := hsrc hv
        simp only [if_true, Bool.true_and]
        by_cases c0 : i = 0
        · refine Ev.congr (fun k => by rw [if_neg (by omega)]) ?_
          rw [decide_eq_true c0, Bool.true_or, Bool.true_and]
          exact hs
        · have h2 : i - 1 < l.length := by omega
          have e1 : (i : Int) - 1 = ((i - 1 : Nat) : Int) := by omega
          rw [decide_eq_false c0, Bool.false_or, getDF l (i - 1) h2]
          refine Ev.congr (fun k => by rw [if_pos (by omega), w64 (by omega) (by omega), if_pos (by omega), if_pos (by omega), e1, rdF l (i - 1) h2]) (Ev.bind (implCompare_ev _ _ _ _ (Nat.le_trans (hf _ (List.getElem_mem h2)) (by omega)) (by omega)) ?_)
          by_cases c : cmpF l[i - 1].f0 l[i - 1].f1 l[i].f0 l[i].f1 < 0
          · rw [decide_eq_true c, Bool.true_and]
            exact Ev.congr (fun k => by rw [decide_eq_false (by omega)]) hs
          · rw [decide_eq_false c, Bool.false_and]
            exact Ev.congr (fun k => by rw [decide_eq_true (by omega)]) hbad
  refine Ev.congr (fun k => by rw [impl_IsValidInstance.f]) (Ev.bind (implValidRels_ev q (by omega)) ?_)
  unfold validInst
  have hbad : Ev (fun k => impl_IsValidInstance.j0 k true q l) false := by
    refine Ev.step (f := fun _ => some false) (fun k => ?_) (Ev.now _)
    rw [impl_IsValidInstance.j0, if_pos rfl]
  cases validRels q with
  | false => simp only [Bool.false_eq_true, if_false, Bool.false_and, Bool.and_false]; exact hbad
  | true =>
    simp only [if_true, Bool.true_and]
    by_cases c : l.length ≤ 30
    · rw [decide_eq_true c, Bool.and_true]
      refine Ev.congr (fun k => by rw [decide_eq_false (by omega)]) (Ev.step (fun k => by rw [impl_IsValidInstance.j0, if_neg (by simp)]; rfl) (loop l.length 0 (by omega)))
    · rw [decide_eq_false c, Bool.and_false]
      exact Ev.congr (fun k => by rw [decide_eq_true (by omega)]) hbad
theorem toFct_GF {f : List LFact} (gf : (GL (fun x : LFact => GP GI (GL GI) (x.f0, x.f1))) f) : ∀ x ∈ f.map toFct, GF x := by
  intro x hx
  obtain ⟨y, hy, rfl⟩ := List.mem_map.1 hx
  exact ⟨(gf.2 y hy).1, (gf.2 y hy).2.2⟩

/-- The place of the first such fact from place i on, or -1. -/
def plc (l : List IFact) (r : Int) (v : List Int) (i : Nat) : Nat → Int
  | 0 => -1
  | d + 1 => if cmpF (l.getD i z44).f0 (l.getD i z44).f1 r v = 0 then (i : Int) else plc l r v (i + 1) d
def hasF (l : List IFact) (r : Int) (v : List Int) : Bool := l.any (fun x => cmpF x.f0 x.f1 r v == 0)
theorem plc_neg (l : List IFact) (r : Int) (v : List Int) : ∀ (d i : Nat), i + d = l.length → decide (plc l r v i d < 0) = !hasF (l.drop i) r v := by
  intro d
  induction d with
  | zero =>
    intro i hi
    have e1 : l.drop i = [] := by rw [List.drop_eq_nil_iff]; omega
    rw [e1]; rfl
  | succ d ih =>
    intro i hi
    have e : l.getD i z44 = l[i] := by have := getD_get l z44 i (by omega); rwa [Int.toNat_natCast] at this
    rw [drop_get l i (by omega), plc, e]
    unfold hasF
    rw [List.any_cons]
    by_cases c : cmpF l[i].f0 l[i].f1 r v = 0
    · rw [if_pos c, c, decide_eq_false (by omega)]; rfl
    · rw [if_neg c, ih (i + 1) (by omega), beq_eq_false_iff_ne.2 c, Bool.false_or]; rfl
theorem specPlace_ev (q : List IRel) (l : List IFact) (r : Int) (v : List Int) (hl : l.length ≤ 140737488355328) (g : ∀ x ∈ l, x.f1.length ≤ 140737488355328) (hv : v.length ≤ 140737488355328) :
    Ev (fun k => spec_l5Place.f k q l r v) (plc l r v 0 l.length) := by
  have loop : ∀ (d i : Nat), i + d = l.length → Ev (fun k => spec_l5Place.l0 k i q l r v) (plc l r v i d) := by
    intro d
    induction d with
    | zero =>
      intro i hi
      refine Ev.step (f := fun _ => some (-1)) (fun k => ?_) (Ev.now _)
      rw [spec_l5Place.l0, if_neg (by omega)]
    | succ d ih =>
      intro i hi
      have e : l.getD i z44 = l[i] := by have := getD_get l z44 i (by omega); rwa [Int.toNat_natCast] at this
      refine Ev.step (f := fun k => (spec_CompareFacts.f k l[i].f0 l[i].f1 r v).bind fun t => if t = 0 then some (i : Int) else spec_l5Place.l0 k ((i + 1 : Nat) : Int) q l r v) (fun k => ?_) ?_
      · rw [spec_l5Place.l0, if_pos (by omega), if_pos (by omega), rdF l i (by omega), w64_succ (by omega)]
      · refine Ev.bind (specCompare_ev _ _ _ _ (g _ (List.getElem_mem (by omega))) hv) ?_
        rw [plc, e]
        by_cases c : cmpF l[i].f0 l[i].f1 r v = 0
        · simp only [c, if_true]; exact Ev.now _
        · simp only [c, if_false]; exact ih (i + 1) (by omega)
  exact Ev.congr (fun k => by rw [spec_l5Place.f]; rfl) (loop l.length 0 (by omega))

theorem sameFact_ev (r : Int) (a : List Int) (r' : Int) (b : List Int) (ha : a.length ≤ 140737488355328) (hb : b.length ≤ 140737488355328) : Ev (fun k => impl_sameFact.f k r a r' b) (cmpF r a r' b == 0) := by
  refine Ev.congr (fun k => by rw [impl_sameFact.f]) ?_
  exact Ev.bind (implCompare_ev _ _ _ _ ha hb) (Ev.now _)

theorem hasFact_ev (l : List IFact) (r : Int) (v : List Int) (hl : l.length ≤ 140737488355328) (g : ∀ x ∈ l, x.f1.length ≤ 140737488355328) (hv : v.length ≤ 140737488355328) :
    Ev (fun k => impl_hasFact.f k l r v) (hasF l r v) := by
  have loop : ∀ (d i : Nat), i + d = l.length → Ev (fun k => slices_IndexFunc_impl_Fact_impl_Fact_chasFact_1.l0 k l l.length i r v) (plc l r v i d) := by
    intro d
    induction d with
    | zero =>
      intro i hi
      refine Ev.step (f := fun _ => some (-1)) (fun k => ?_) (Ev.now _)
      rw [slices_IndexFunc_impl_Fact_impl_Fact_chasFact_1.l0, if_neg (by omega)]
    | succ d ih =>
      intro i hi
      have e : l.getD i z44 = l[i] := by have := getD_get l z44 i (by omega); rwa [Int.toNat_natCast] at this
      have hz := g l[i] (List.getElem_mem (by omega))
      refine Ev.step (f := fun k => (impl_hasFact_1.f k l[i].f0 l[i].f1 r v).bind fun t => if t = true then some (i : Int) else slices_IndexFunc_impl_Fact_impl_Fact_chasFact_1.l0 k l l.length ((i + 1 : Nat) : Int) r v) (fun k => ?_) ?_
      · rw [slices_IndexFunc_impl_Fact_impl_Fact_chasFact_1.l0, if_pos (by omega), if_pos (by omega), if_pos (by omega), rdF l i (by omega), w64_succ (by omega)]
      · have hc : Ev (fun k => impl_hasFact_1.f k l[i].f0 l[i].f1 r v) (cmpF l[i].f0 l[i].f1 r v == 0) := Ev.congr (fun k => by rw [impl_hasFact_1.f]) (Ev.bind (sameFact_ev _ _ _ _ hz hv) (Ev.now _))
        refine Ev.bind hc ?_
        rw [plc, e]
        by_cases c : cmpF l[i].f0 l[i].f1 r v = 0
        · simp only [c, if_true, beq_self_eq_true]; exact Ev.now _
        · rw [beq_eq_false_iff_ne.2 c]
          simp only [c, if_false, Bool.false_eq_true]
          exact ih (i + 1) (by omega)
  refine Ev.congr (fun k => by rw [impl_hasFact.f, slices_ContainsFunc_impl_Fact_impl_Fact_chasFact_1.f, slices_IndexFunc_impl_Fact_impl_Fact_chasFact_1.f]) ?_
  refine Ev.bind (Ev.bind (loop l.length 0 (by omega)) (Ev.now _)) ?_
  have h := plc_neg l r v l.length 0 (by omega)
  rw [List.drop_zero] at h
  have h2 : decide (plc l r v 0 l.length ≥ 0) = hasF l r v := by
    have h3 := congrArg (fun b => !b) h
    simp only [Bool.not_not] at h3
    rw [← h3, ← decide_not]
    exact decide_eq_decide.2 (by omega)
  rw [h2]
  exact Ev.now _

def contF (q : List IRel) (l : List IFact) (r : Int) (v : List Int) : Bool := validInst q l && hasF l r v
theorem place_has (l : List IFact) (r : Int) (v : List Int) : decide (plc l r v 0 l.length ≥ 0) = hasF l r v := by
  have h := plc_neg l r v l.length 0 (by omega)
  rw [List.drop_zero] at h
  have h3 := congrArg (fun b => !b) h
  simp only [Bool.not_not] at h3
  rw [← h3, ← decide_not]
  exact decide_eq_decide.2 (by omega)
theorem specContains_ev (q : List IRel) (l : List IFact) (r : Int) (v : List Int) (hq : q.length ≤ 1048576) (hl : l.length ≤ 1048576) (hf : ∀ x ∈ l, x.f1.length ≤ 1048576) (gf : ∀ x ∈ l, GF x) (hv : v.length ≤ 1048576) : Ev (fun k => spec_ContainsFact.f k q l r v) (contF q l r v) := by
  refine Ev.congr (fun k => by rw [spec_ContainsFact.f]) (Ev.bind (specValidInst_ev q l hq hl hf gf) ?_)
  unfold contF
  cases validInst q l with
  | false => simp only [Bool.false_eq_true, if_false, Bool.false_and]; exact Ev.now _
  | true =>
    simp only [if_true, Bool.true_and]
    refine Ev.bind (specPlace_ev q l r v (by omega) (fun x hx => Nat.le_trans (hf x hx) (by omega)) (by omega)) ?_
    rw [place_has]
    exact Ev.now _
theorem implContains_ev (q : List IRel) (l : List IFact) (r : Int) (v : List Int) (hq : q.length ≤ 1048576) (hl : l.length ≤ 1048576) (hf : ∀ x ∈ l, x.f1.length ≤ 1048576) (gf : ∀ x ∈ l, GF x) (hv : v.length ≤ 1048576) : Ev (fun k => impl_ContainsFact.f k q l r v) (contF q l r v) := by
  refine Ev.congr (fun k => by rw [impl_ContainsFact.f]) (Ev.bind (implValidInst_ev q l hq hl hf gf) ?_)
  unfold contF
  cases validInst q l with
  | false => simp only [Bool.false_eq_true, if_false, Bool.false_and]; exact Ev.now _
  | true =>
    simp only [if_true, Bool.true_and]
    exact Ev.bind (hasFact_ev l r v (by omega) (fun x hx => Nat.le_trans (hf x hx) (by omega)) (by omega)) (Ev.now _)

theorem FnExactContainsFact (l0_0 : List S67) (l0_1 : List S41) (a1_0 : Int) (l1_1 : List Int) (g0_0 : (GL (fun x : S67 => GP GS (GP GI GB) (x.f0, x.f1, x.f2))) l0_0) (g0_1 : (GL (fun x : S41 => GP GI (GL GI) (x.f0, x.f1))) l0_1) (g1_0 : GI a1_0) (g1_1 : (GL GI) l1_1) : ∃ k, laws_FnExactContainsFact.f k l0_0 l0_1 a1_0 l1_1 = some true := by
  obtain ⟨r, e, h⟩ := szInst_ev l0_0 l0_1 g0_0 g0_1 1048576 (by omega) (by omega)
  refine Ev.rounds (r := true) (Ev.congr (fun k => by rw [laws_FnExactContainsFact.f]) (Ev.bind e ?_))
  rcases h with h | h
  · simp only [h, if_true]; exact Ev.now _
  · simp only [show ¬ r < 0 by omega, if_false]
    obtain ⟨r2, e2, h2⟩ := szFact_f a1_0 l1_1 g1_1.1 r (by omega) (by omega)
    refine Ev.congr (fun k => by rw [e2, Option.bind_some]) ?_
    rcases h2 with h2 | h2
    · simp only [h2, if_true]; exact Ev.now _
    · simp only [show ¬ r2 < 0 by omega, if_false]
      have n1 : (l0_0.map toRel).length ≤ 1048576 := by simp; omega
      have n2 : (l0_1.map toFct).length ≤ 1048576 := by simp; omega
      have t1 := toInst_ev l0_0 l0_1 (by omega) (by omega) (by omega)
      have t2 := toFact_ev a1_0 l1_1 (by omega)
      have f1 := toFct_len (f := l0_1) (by omega)
      have g1 := toFct_GF g0_1
      refine Ev.bind t1 (Ev.bind t2 (Ev.bind (specContains_ev _ _ a1_0 l1_1 n1 n2 f1 g1 (by omega)) (Ev.bind t1 (Ev.bind t2 (Ev.bind (implContains_ev _ _ a1_0 l1_1 n1 n2 f1 g1 (by omega)) ?_)))))
      simp only [bne_self_eq_false, Bool.false_eq_true, if_false]
      refine Ev.bind t1 (Ev.bind (eqInst_ev _ _ (by omega) (by omega) (fun x hx => Nat.le_trans (f1 x hx) (by omega))) ?_)
      simp only [if_true]
      refine Ev.bind t2 (Ev.bind (eqFact_ev a1_0 l1_1 (by omega)) ?_)
      simp only [if_true]
      exact Ev.now _

end Go.Proofs.Ytjphbdnfbkfgiab.Pure
