/- IsSubset of the program and of the reference agree, for every two instances (past the law's own size bound it answers true itself). -/
import Derived.Test.YtjphbdnfbkfgiaaPFnExactIsSubsetx1
import Derived.Test.YtjphbdnfbkfgiaaPFnExactIsSubsetx2
import Derived.Test.YtjphbdnfbkfgiaaPFnExactIsSubsetx3
import Derived.Test.YtjphbdnfbkfgiaaPFnExactIsSubsetx4
import Derived.Test.YtjphbdnfbkfgiaaPFnExactIsSubsetx5
import Derived.Test.YtjphbdnfbkfgiaaPFnExactIsSubsetx6
import Derived.Test.YtjphbdnfbkfgiaaPFnExactIsSubsetx7
import Derived.Test.YtjphbdnfbkfgiaaOpens
import Derived.Test.YtjphbdnfbkfgiaaPlain
namespace Go.Proofs.Ytjphbdnfbkfgiaa.Pure
open Go.RowKit Go.Proofs.Ytjphbdnfbkfgiaa.PFnExactIsSubset Go.Proofs.YtjphbdnfbkfgiaaW.PrintWords Go.Proofs.YtjphbdnfbkfgiaaW.PrintLast Go.Proofs.YtjphbdnfbkfgiaaW.PrintMore Go.Proofs.Ytjphbdnfbkfgiaa.Opens Go.Proofs.Ytjphbdnfbkfgiaa.Plain
set_option linter.unusedVariables false
set_option linter.unusedSimpArgs false

abbrev LRel := S80
abbrev IRel := S68
def toRel (x : LRel) : IRel := ⟨x.f0, x.f1, x.f2⟩
theorem szRelationS_ev (l : List LRel) (hl : l.length ≤ 9223372036854775807) (g : ∀ x ∈ l, x.f0.size ≤ 9223372036854775807) (a : Int) (h0 : 0 ≤ a) (h1 : a ≤ 1048576) :
    ∃ r, Ev (fun k => laws_szRelationS.f k l a) r ∧ (r < 0 ∨ 0 ≤ r ∧ r + l.length ≤ a) := by
  have loop : ∀ (d i : Nat) (x : Int), i + d = l.length → 0 ≤ x → x ≤ 1048576 → ∃ r, Ev (fun k => laws_szRelationS.l0 k l x i) r ∧ (r < 0 ∨ 0 ≤ r ∧ r ≤ x) := by
    intro d
    induction d with
    | zero =>
      intro i x hi hx hx1
      exact ⟨x, Ev.step (f := fun _ => some x) (fun k => by rw [laws_szRelationS.l0, if_neg (by omega)]) (Ev.now _), .inr ⟨hx, Int.le_refl _⟩⟩
    | succ d ih =>
      intro i x hi hx hx1
      have hz := g l[i] (List.getElem_mem (by omega))
      have e : rd_T80 l (i : Int) = l[i] := getD_get l _ i (by omega)
      have hs : laws_szRelation.f l[i].f0 l[i].f1 l[i].f2 x = some (if x - (l[i].f0.size : Int) < 0 then -1 else x - (l[i].f0.size : Int)) := by
        unfold laws_szRelation.f
        rw [w64 (by omega) (by omega)]
        split <;> rfl
      by_cases c : x - (l[i].f0.size : Int) < 0
      · refine ⟨-1, Ev.step (f := fun _ => some (-1)) (fun k => ?_) (Ev.now _), .inl (by omega)⟩
        rw [laws_szRelationS.l0, if_pos (by omega), if_pos (by omega), e, hs, if_pos c, Option.bind_some, if_pos (by omega)]
      · obtain ⟨r, er, hr⟩ := ih (i + 1) (x - (l[i].f0.size : Int)) (by omega) (by omega) (by omega)
        refine ⟨r, Ev.step (f := fun k => laws_szRelationS.l0 k l (x - (l[i].f0.size : Int)) ((i + 1 : Nat) : Int)) (fun k => ?_) er, ?_⟩
        · rw [laws_szRelationS.l0, if_pos (by omega), if_pos (by omega), e, hs, if_neg c, Option.bind_some, if_neg c, w64_succ (by omega)]
        · omega
  by_cases c : a - (l.length : Int) < 0
  · refine ⟨-1, Ev.congr (f := fun _ => some (-1)) (fun k => ?_) (Ev.now _), .inl (by omega)⟩
    rw [laws_szRelationS.f, w64 (by omega) (by omega), if_pos c]
  · obtain ⟨r, er, hr⟩ := loop l.length 0 (a - l.length) (by omega) (by omega) (by omega)
    refine ⟨r, Ev.congr (fun k => ?_) er, by omega⟩
    rw [laws_szRelationS.f, w64 (by omega) (by omega), if_neg c]; rfl
theorem toRelationS_ev (l : List LRel) (hl : l.length ≤ 1048576) : Ev (fun k => laws_toRelationS.f k l) (l.map toRel) := by
  have loop : ∀ (d i : Nat), i + d = l.length → Ev (fun k => laws_toRelationS.l0 k l ((l.take i).map toRel ++ List.replicate (l.length - i) z68) i) (l.map toRel) := by
    intro d
    induction d with
    | zero =>
      intro i hi
      refine Ev.step (f := fun _ => some (l.map toRel)) (fun k => ?_) (Ev.now _)
      rw [laws_toRelationS.l0, if_neg (by omega)]
      simp [show l.length - i = 0 by omega, List.take_of_length_le (show l.length ≤ i by omega)]
    | succ d ih =>
      intro i hi
      have e : rd_T80 l (i : Int) = l[i] := getD_get l _ i (by omega)
      refine Ev.step (f := fun k => laws_toRelationS.l0 k l ((l.take (i + 1)).map toRel ++ List.replicate (l.length - (i + 1)) z68) ((i + 1 : Nat) : Int)) (fun k => ?_) (ih (i + 1) (by omega))
      rw [laws_toRelationS.l0, if_pos (by omega), if_pos (by omega), e, laws_toRelation.f, Option.bind_some, if_pos (by rw [fill_len _ _ _ _ (by omega)]; omega), Int.toNat_natCast, w64_succ (by omega)]
      have e2 := fill_step toRel l z68 i (by omega)
      rw [← e2]
      rfl
  refine Ev.congr (f := fun k => laws_toRelationS.l0 k l (List.replicate l.length z68) 0) (fun k => ?_) ?_
  · rw [laws_toRelationS.f, if_pos (by omega), if_pos (by omega)]; rfl
  · have e := loop l.length 0 (by omega)
    simpa using e
theorem eqRelationS_ev (l : List IRel) (hl : l.length ≤ 140737488355328) : Ev (fun k => laws_eqRelationS.f k l l) true := by
  have loop : ∀ (d i : Nat), i + d = l.length → Ev (fun k => laws_eqRelationS.l0 k l l i) true := by
    intro d
    induction d with
    | zero =>
      intro i hi
      refine Ev.step (f := fun _ => some true) (fun k => ?_) (Ev.now _)
      rw [laws_eqRelationS.l0, if_neg (by omega)]
    | succ d ih =>
      intro i hi
      refine Ev.step (f := fun k => laws_eqRelationS.l0 k l l ((i + 1 : Nat) : Int)) (fun k => ?_) (ih (i + 1) (by omega))
      rw [laws_eqRelationS.l0, if_pos (by omega), if_pos (by omega), if_pos (by omega), laws_eqRelation.f, if_pos rfl, if_pos rfl, bne_self_eq_false, if_neg (by simp), Option.bind_some, if_pos rfl, w64_succ (by omega)]
  refine Ev.congr (f := fun k => laws_eqRelationS.l0 k l l 0) (fun k => ?_) (loop l.length 0 (by omega))
  rw [laws_eqRelationS.f, if_pos rfl]

theorem szIntS_f (l : List Int) (hl : l.length ≤ 9223372036854775807) (a : Int) (h0 : 0 ≤ a) (h1 : a ≤ 1048576) :
    ∃ r, laws_szIntS.f l a = some r ∧ (r < 0 ∨ 0 ≤ r ∧ r + l.length ≤ a) := by
  unfold laws_szIntS.f
  rw [w64 (by omega) (by omega)]
  by_cases c : a - (l.length : Int) < 0
  · exact ⟨-1, by rw [if_pos c], .inl (by omega)⟩
  · exact ⟨a - l.length, by rw [if_neg c], .inr (by omega)⟩

theorem toIntS_ev (l : List Int) (hl : l.length ≤ 1048576) : Ev (fun k => laws_toIntS.f k l) l := by
  have loop : ∀ (d i : Nat), i + d = l.length → Ev (fun k => laws_toIntS.l0 k l ((l.take i).map id ++ List.replicate (l.length - i) 0) i) l := by
    intro d
    induction d with
    | zero =>
      intro i hi
      refine Ev.step (f := fun _ => some l) (fun k => ?_) (Ev.now _)
      rw [laws_toIntS.l0, if_neg (by omega)]
      simp [show l.length - i = 0 by omega, List.take_of_length_le (show l.length ≤ i by omega)]
    | succ d ih =>
      intro i hi
      refine Ev.step (f := fun k => laws_toIntS.l0 k l ((l.take (i + 1)).map id ++ List.replicate (l.length - (i + 1)) 0) ((i + 1 : Nat) : Int)) (fun k => ?_) (ih (i + 1) (by omega))
      rw [laws_toIntS.l0, if_pos (by omega), if_pos (by omega), if_pos (by rw [fill_len _ _ _ _ (by omega)]; omega), rd_get l i (by omega), Int.toNat_natCast, w64_succ (by omega)]
      have e := fill_step id l 0 i (by omega)
      rw [id_eq] at e
      rw [e]
  refine Ev.congr (f := fun k => laws_toIntS.l0 k l (List.replicate l.length 0) 0) (fun k => ?_) ?_
  · rw [laws_toIntS.f, if_pos (by omega), if_pos (by omega)]; rfl
  · have e := loop l.length 0 (by omega)
    simpa using e

theorem eqIntS_ev (l : List Int) (hl : l.length ≤ 140737488355328) : Ev (fun k => laws_eqIntS.f k l l) true := by
  have loop : ∀ (d i : Nat), i + d = l.length → Ev (fun k => laws_eqIntS.l0 k l l i) true := by
    intro d
    induction d with
    | zero =>
      intro i hi
      refine Ev.step (f := fun _ => some true) (fun k => ?_) (Ev.now _)
      rw [laws_eqIntS.l0, if_neg (by omega)]
    | succ d ih =>
      intro i hi
      refine Ev.step (f := fun k => laws_eqIntS.l0 k l l ((i + 1 : Nat) : Int)) (fun k => ?_) (ih (i + 1) (by omega))
      rw [laws_eqIntS.l0, if_pos (by omega), if_pos (by omega), if_pos (by omega), if_pos rfl, w64_succ (by omega)]
  refine Ev.congr (f := fun k => laws_eqIntS.l0 k l l 0) (fun k => ?_) (loop l.length 0 (by omega))
  rw [laws_eqIntS.f, if_pos rfl]

theorem szFact_f (r : Int) (v : List Int) (hv : v.length ≤ 9223372036854775807) (a : Int) (h0 : 0 ≤ a) (h1 : a ≤ 1048576) :
    ∃ s, laws_szFact.f r v a = some s ∧ (s < 0 ∨ 0 ≤ s ∧ s + v.length ≤ a) := by
  obtain ⟨s, e, h⟩ := szIntS_f v hv a h0 h1
  unfold laws_szFact.f
  rw [e, Option.bind_some]
  rcases h with h | h
  · exact ⟨-1, by rw [if_pos h], .inl (by omega)⟩
  · exact ⟨s, by rw [if_neg (by omega)], .inr h⟩
theorem toFact_ev (r : Int) (v : List Int) (hv : v.length ≤ 1048576) : Ev (fun k => laws_toFact.f k r v) (r, v) := by
  refine Ev.congr (fun k => by rw [laws_toFact.f]) ?_
  exact Ev.bind (toIntS_ev v hv) (Ev.now _)
theorem eqFact_ev (r : Int) (v : List Int) (hv : v.length ≤ 140737488355328) : Ev (fun k => laws_eqFact.f k r v r v) true := by
  refine Ev.congr (fun k => by rw [laws_eqFact.f, if_pos rfl]) ?_
  refine Ev.bind (eqIntS_ev v hv) ?_
  simp only [if_true]
  exact Ev.now _

abbrev LFact := S36
abbrev IFact := S39
def toFct (x : LFact) : IFact := ⟨x.f0, x.f1⟩
/-- The number of values in all the facts. -/
def facTot (l : List LFact) : Nat := (l.map (fun x => x.f1.length)).sum
theorem facTot_le {l : List LFact} {x : LFact} (h : x ∈ l) : x.f1.length ≤ facTot l := by
  unfold facTot
  induction l with
  | nil => cases h
  | cons y l ih =>
    simp only [List.map_cons, List.sum_cons]
    rcases List.mem_cons.1 h with rfl | h
    · omega
    · have := ih h; omega
theorem szFactS_ev (l : List LFact) (hl : l.length ≤ 9223372036854775807) (g : ∀ x ∈ l, x.f1.length ≤ 9223372036854775807) (a : Int) (h0 : 0 ≤ a) (h1 : a ≤ 1048576) :
    ∃ r, Ev (fun k => laws_szFactS.f k l a) r ∧ (r < 0 ∨ 0 ≤ r ∧ r + l.length + facTot l ≤ a) := by
  have loop : ∀ (d i : Nat) (x : Int), i + d = l.length → 0 ≤ x → x ≤ 1048576 → ∃ r, Ev (fun k => laws_szFactS.l0 k l x i) r ∧ (r < 0 ∨ 0 ≤ r ∧ r + facTot (l.drop i) ≤ x) := by
    intro d
    induction d with
    | zero =>
      intro i x hi hx hx1
      have e1 : l.drop i = [] := by rw [List.drop_eq_nil_iff]; omega
      exact ⟨x, Ev.step (f := fun _ => some x) (fun k => by rw [laws_szFactS.l0, if_neg (by omega)]) (Ev.now _), .inr ⟨hx, by rw [e1]; simp [facTot]⟩⟩
    | succ d ih =>
      intro i x hi hx hx1
      have hz := g l[i] (List.getElem_mem (by omega))
      have e : rd_T36 l (i : Int) = l[i] := getD_get l _ i (by omega)
      obtain ⟨s, es, hs⟩ := szFact_f l[i].f0 l[i].f1 hz x hx hx1
      rcases hs with hs | hs
      · refine ⟨-1, Ev.step (f := fun _ => some (-1)) (fun k => ?_) (Ev.now _), .inl (by omega)⟩
        rw [laws_szFactS.l0, if_pos (by omega), if_pos (by omega), e, es, Option.bind_some, if_pos hs]
      · obtain ⟨r, er, hr⟩ := ih (i + 1) s (by omega) hs.1 (by omega)
        refine ⟨r, Ev.step (f := fun k => laws_szFactS.l0 k l s ((i + 1 : Nat) : Int)) (fun k => ?_) er, ?_⟩
        · rw [laws_szFactS.l0, if_pos (by omega), if_pos (by omega), e, es, Option.bind_some, if_neg (by omega), w64_succ (by omega)]
        · rw [drop_get l i (by omega)]
          simp only [facTot, List.map_cons, List.sum_cons] at hr ⊢
          omega
  by_cases c : a - (l.length : Int) < 0
  · refine ⟨-1, Ev.congr (f := fun _ => some (-1)) (fun k => ?_) (Ev.now _), .inl (by omega)⟩
    rw [laws_szFactS.f, w64 (by omega) (by omega), if_pos c]
  · obtain ⟨r, er, hr⟩ := loop l.length 0 (a - l.length) (by omega) (by omega) (by omega)
    refine ⟨r, Ev.congr (fun k => ?_) er, by simp only [List.drop_zero] at hr; omega⟩
    rw [laws_szFactS.f, w64 (by omega) (by omega), if_neg c]; rfl
theorem toFactS_ev (l : List LFact) (hl : l.length ≤ 1048576) (g : ∀ x ∈ l, x.f1.length ≤ 1048576) : Ev (fun k => laws_toFactS.f k l) (l.map toFct) := by
  have loop : ∀ (d i : Nat), i + d = l.length → Ev (fun k => laws_toFactS.l0 k l ((l.take i).map toFct ++ List.replicate (l.length - i) z39) i) (l.map toFct) := by
    intro d
    induction d with
    | zero =>
      intro i hi
      refine Ev.step (f := fun _ => some (l.map toFct)) (fun k => ?_) (Ev.now _)
      rw [laws_toFactS.l0, if_neg (by omega)]
      simp [show l.length - i = 0 by omega, List.take_of_length_le (show l.length ≤ i by omega)]
    | succ d ih =>
      intro i hi
      have hz := g l[i] (List.getElem_mem (by omega))
      have e : rd_T36 l (i : Int) = l[i] := getD_get l _ i (by omega)
      have e2 := fill_step toFct l z39 i (by omega)
      have e3 := fill_len toFct l z39 i (by omega)
      generalize ((l.take i).map toFct ++ List.replicate (l.length - i) z39) = y at e2 e3 ⊢
      refine Ev.step (f := fun k => (laws_toFact.f k l[i].f0 l[i].f1).bind fun bt => if (i : Int) < (y.length : Int) then laws_toFactS.l0 k l (y.set ((i : Int)).toNat ⟨bt.1, bt.2⟩) (wrap64 ((i : Int) + 1)) else none) (fun k => ?_) ?_
      · rw [laws_toFactS.l0, if_pos (by omega), if_pos (by omega), e]
      · refine Ev.bind (toFact_ev _ _ hz) (Ev.congr (fun k => ?_) (ih (i + 1) (by omega)))
        rw [if_pos (by omega), Int.toNat_natCast, w64_succ (by omega), ← e2]
        rfl
  refine Ev.congr (f := fun k => laws_toFactS.l0 k l (List.replicate l.length z39) 0) (fun k => ?_) ?_
  · rw [laws_toFactS.f, if_pos (by omega), if_pos (by omega)]; rfl
  · have e := loop l.length 0 (by omega)
    simpa using e
theorem eqFactS_ev (l : List IFact) (hl : l.length ≤ 140737488355328) (g : ∀ x ∈ l, x.f1.length ≤ 140737488355328) : Ev (fun k => laws_eqFactS.f k l l) true := by
  have loop : ∀ (d i : Nat), i + d = l.length → Ev (fun k => laws_eqFactS.l0 k l l i) true := by
    intro d
    induction d with
    | zero =>
      intro i hi
      refine Ev.step (f := fun _ => some true) (fun k => ?_) (Ev.now _)
      rw [laws_eqFactS.l0, if_neg (by omega)]
    | succ d ih =>
      intro i hi
      have e : rd_T39 l (i : Int) = l[i] := getD_get l _ i (by omega)
      refine Ev.step (f := fun k => (laws_eqFact.f k l[i].f0 l[i].f1 l[i].f0 l[i].f1).bind fun t => if t = true then laws_eqFactS.l0 k l l ((i + 1 : Nat) : Int) else some false) (fun k => ?_) ?_
      · rw [laws_eqFactS.l0, if_pos (by omega), if_pos (by omega), if_pos (by omega), e, w64_succ (by omega)]
      · refine Ev.bind (eqFact_ev _ _ (g _ (List.getElem_mem (by omega)))) ?_
        simp only [if_true]
        exact ih (i + 1) (by omega)
  refine Ev.congr (f := fun k => laws_eqFactS.l0 k l l 0) (fun k => ?_) (loop l.length 0 (by omega))
  rw [laws_eqFactS.f, if_pos rfl]
theorem szInst_ev (l : List LRel) (f : List LFact) (gl : (GL (fun x : LRel => GP GS (GP GI GB) (x.f0, x.f1, x.f2))) l) (gf : (GL (fun x : LFact => GP GI (GL GI) (x.f0, x.f1))) f) (a : Int) (h0 : 0 ≤ a) (h1 : a ≤ 1048576) :
    ∃ r, Ev (fun k => laws_szInstance.f k l f a) r ∧ (r < 0 ∨ 0 ≤ r ∧ r + l.length + f.length + facTot f ≤ a) := by
  obtain ⟨r, e, h⟩ := szRelationS_ev l gl.1 (fun x hx => (gl.2 x hx).1) a h0 h1
  rcases h with h | h
  · refine ⟨-1, Ev.congr (fun k => by rw [laws_szInstance.f]) (Ev.bind e ?_), .inl (by omega)⟩
    simp only [h, if_true]; exact Ev.now _
  · obtain ⟨r2, e2, h2⟩ := szFactS_ev f gf.1 (fun x hx => (gf.2 x hx).2.1) r (by omega) (by omega)
    rcases h2 with h2 | h2
    · refine ⟨-1, Ev.congr (fun k => by rw [laws_szInstance.f]) (Ev.bind e ?_), .inl (by omega)⟩
      simp only [show ¬ r < 0 by omega, if_false]
      refine Ev.bind e2 ?_
      simp only [h2, if_true]; exact Ev.now _
    · refine ⟨r2, Ev.congr (fun k => by rw [laws_szInstance.f]) (Ev.bind e ?_), .inr (by omega)⟩
      simp only [show ¬ r < 0 by omega, if_false]
      refine Ev.bind e2 ?_
      simp only [show ¬ r2 < 0 by omega, if_false]; exact Ev.now _
theorem toInst_ev (l : List LRel) (f : List LFact) (hl : l.length ≤ 1048576) (hf : f.length ≤ 1048576) (g : facTot f ≤ 1048576) : Ev (fun k => laws_toInstance.f k l f) (l.map toRel, f.map toFct) := by
  refine Ev.congr (fun k => by rw [laws_toInstance.f]) ?_
  exact Ev.bind (toRelationS_ev l hl) (Ev.bind (toFactS_ev f hf (fun x hx => Nat.le_trans (facTot_le hx) g)) (Ev.now _))
theorem eqInst_ev (l : List IRel) (f : List IFact) (hl : l.length ≤ 140737488355328) (hf : f.length ≤ 140737488355328) (g : ∀ x ∈ f, x.f1.length ≤ 140737488355328) : Ev (fun k => laws_eqInstance.f k l f l f) true := by
  refine Ev.congr (fun k => by rw [laws_eqInstance.f]) ?_
  refine Ev.bind (eqRelationS_ev l hl) ?_
  simp only [if_true]
  refine Ev.bind (eqFactS_ev f hf g) ?_
  simp only [if_true]
  exact Ev.now _
theorem toFct_len {f : List LFact} (g : facTot f ≤ 1048576) : ∀ x ∈ f.map toFct, x.f1.length ≤ 1048576 := by
  intro x hx
  obtain ⟨y, hy, rfl⟩ := List.mem_map.1 hx
  exact Nat.le_trans (facTot_le hy) g
theorem rdF (l : List IFact) (i : Nat) (h : i < l.length) : rd_T39 l (i : Int) = l[i] := getD_get l _ i h

/-- Lists of numbers, value by value; a proper prefix is less. -/
def cmpL : List Int → List Int → Int
  | [], [] => 0
  | [], _ :: _ => -1
  | _ :: _, [] => 1
  | a :: l, b :: m => if a < b then -1 else if a > b then 1 else cmpL l m
theorem l4Ints_ev (a b : List Int) (ha : a.length ≤ 140737488355328) (hb : b.length ≤ 140737488355328) : Ev (fun k => spec_l4Ints.f k a b) (cmpL a b) := by
  have stop : ∀ i : Nat, i ≤ a.length → i ≤ b.length → (i = a.length ∨ i = b.length) → Ev (fun k => spec_l4Ints.j1 k a b i false) (cmpL (a.drop i) (b.drop i)) := by
    intro i h1 h2 h
    refine Ev.step (f := fun _ => some (cmpL (a.drop i) (b.drop i))) (fun k => ?_) (Ev.now _)
    rw [spec_l4Ints.j1, if_neg (by simp)]
    by_cases c1 : i = a.length
    · have e1 : a.drop i = [] := by rw [List.drop_eq_nil_iff]; omega
      rw [e1]
      by_cases c2 : i = b.length
      · have e2 : b.drop i = [] := by rw [List.drop_eq_nil_iff]; omega
        rw [e2, if_neg (by omega), if_neg (by omega)]; rfl
      · rw [drop_get b i (by omega), if_pos (by omega)]; rfl
    · have c2 : i = b.length := by omega
      have e2 : b.drop i = [] := by rw [List.drop_eq_nil_iff]; omega
      rw [e2, drop_get a i (by omega), if_neg (by omega), if_pos (by omega)]; rfl
  have loop : ∀ (d i : Nat), i + d = a.length → i ≤ b.length → Ev (fun k => spec_l4Ints.l0 k a b i) (cmpL (a.drop i) (b.drop i)) := by
    intro d
    induction d with
    | zero =>
      intro i hi hb'
      refine Ev.step (f := fun k => spec_l4Ints.j1 k a b i false) (fun k => ?_) (stop i (by omega) hb' (.inl (by omega)))
      rw [spec_l4Ints.l0, if_neg (by omega)]
    | succ d ih =>
      intro i hi hb'
      by_cases c : i < b.length
      · refine Ev.step (f := fun k => spec_l4Ints.j1 k a b i true) (fun k => ?_) ?_
        · rw [spec_l4Ints.l0, if_pos (by omega), decide_eq_true (by omega)]
        · refine Ev.step (f := fun k => if a[i] < b[i] then some (-1) else if a[i] > b[i] then some 1 else spec_l4Ints.l0 k a b ((i + 1 : Nat) : Int)) (fun k => ?_) ?_
          · rw [spec_l4Ints.j1, if_pos rfl, if_pos (by omega), if_pos (by omega), if_pos (by omega), rd_get a i (by omega), rd_get b i c, w64_succ (by omega)]
          · rw [drop_get a i (by omega), drop_get b i c, cmpL]
            by_cases c1 : a[i] < b[i]
            · simp only [c1, if_true]; exact Ev.now _
            · by_cases c2 : a[i] > b[i]
              · simp only [c1, c2, if_true, if_false]; exact Ev.now _
              · simp only [c1, c2, if_false]; exact ih (i + 1) (by omega) (by omega)
      · refine Ev.step (f := fun k => spec_l4Ints.j1 k a b i false) (fun k => ?_) (stop i (by omega) hb' (.inr (by omega)))
        rw [spec_l4Ints.l0, if_pos (by omega), decide_eq_false (by omega)]
  exact Ev.congr (fun k => by rw [spec_l4Ints.f]; rfl) (loop a.length 0 (by omega) (by omega))

def cmpF (r : Int) (a : List Int) (r' : Int) (b : List Int) : Int := if r < r' then -1 else if r > r' then 1 else cmpL a b
theorem specCompare_ev (r : Int) (a : List Int) (r' : Int) (b : List Int) (ha : a.length ≤ 140737488355328) (hb : b.length ≤ 140737488355328) : Ev (fun k => spec_CompareFacts.f k r a r' b) (cmpF r a r' b) := by
  refine Ev.congr (fun k => by rw [spec_CompareFacts.f]) ?_
  unfold cmpF
  by_cases c1 : r < r'
  · simp only [c1, if_true]; exact Ev.now _
  · by_cases c2 : r > r'
    · simp only [c1, c2, if_true, if_false]; exact Ev.now _
    · simp only [c1, c2, if_false]
      exact Ev.bind (l4Ints_ev a b ha hb) (Ev.now _)

def cmpI (a b : Int) : Int := if a < b then -1 else if a > b then 1 else 0
theorem cmpCompare_f (a b : Int) : cmp_Compare_int.f a b = some (cmpI a b) := by
  unfold cmp_Compare_int.f cmp_isNaN_int.f cmpI
  simp only [bne_self_eq_false, Option.bind_some, Bool.false_eq_true, if_false]
  split
  · rfl
  · split <;> rfl
theorem cmpI_zero (a b : Int) : cmpI a b = 0 ↔ a = b := by
  unfold cmpI
  split
  · omega
  · split <;> omega
theorem slicesCompare_ev (a b : List Int) (ha : a.length ≤ 140737488355328) (hb : b.length ≤ 140737488355328) : Ev (fun k => slices_Compare_int_int.f k a b) (cmpL a b) := by
  have loop : ∀ (d i : Nat), i + d = a.length → i ≤ b.length → Ev (fun k => slices_Compare_int_int.l0 k a b a a.length i) (cmpL (a.drop i) (b.drop i)) := by
    intro d
    induction d with
    | zero =>
      intro i hi hb'
      have e1 : a.drop i = [] := by rw [List.drop_eq_nil_iff]; omega
      rw [e1]
      by_cases c2 : i = b.length
      · have e2 : b.drop i = [] := by rw [List.drop_eq_nil_iff]; omega
        rw [e2]
        refine Ev.step (f := fun _ => some 0) (fun k => ?_) (Ev.now _)
        rw [slices_Compare_int_int.l0, if_neg (by omega), if_neg (by omega)]
      · rw [drop_get b i (by omega)]
        refine Ev.step (f := fun _ => some (-1)) (fun k => ?_) (Ev.now _)
        rw [slices_Compare_int_int.l0, if_neg (by omega), if_pos (by omega)]
    | succ d ih =>
      intro i hi hb'
      rw [drop_get a i (by omega)]
      by_cases c : i < b.length
      · rw [drop_get b i c]
        refine Ev.step (f := fun k => if cmpI a[i] b[i] = 0 then slices_Compare_int_int.l0 k a b a a.length ((i + 1 : Nat) : Int) else some (cmpI a[i] b[i])) (fun k => ?_) ?_
        · rw [slices_Compare_int_int.l0, if_pos (by omega), if_pos (by omega), if_pos (by omega), if_neg (by omega), if_pos (by omega), rd_get a i (by omega), rd_get b i c, cmpCompare_f, Option.bind_some, w64_succ (by omega)]
        · by_cases c0 : cmpI a[i] b[i] = 0
          · simp only [c0, if_true]
            have e := (cmpI_zero _ _).1 c0
            rw [cmpL, if_neg (by omega), if_neg (by omega)]
            exact ih (i + 1) (by omega) (by omega)
          · simp only [c0, if_false]
            have e : cmpL (a[i] :: a.drop (i + 1)) (b[i] :: b.drop (i + 1)) = cmpI a[i] b[i] := by
              have h := (not_congr (cmpI_zero _ _)).1 c0
              rw [cmpL]; unfold cmpI
              by_cases c1 : a[i] < b[i]
              · rw [if_pos c1, if_pos c1]
              · rw [if_neg c1, if_neg c1, if_pos (by omega), if_pos (by omega)]
            rw [e]; exact Ev.now _
      · have e2 : b.drop i = [] := by rw [List.drop_eq_nil_iff]; omega
        rw [e2]
        refine Ev.step (f := fun _ => some 1) (fun k => ?_) (Ev.now _)
        rw [slices_Compare_int_int.l0, if_pos (by omega), if_pos (by omega), if_pos (by omega), if_pos (by omega)]
  exact Ev.congr (fun k => by rw [slices_Compare_int_int.f]; rfl) (loop a.length 0 (by omega) (by omega))
theorem cmpOr_ev (x y : Int) : Ev (fun k => cmp_Or_int.f k [x, y]) (if x = 0 then y else x) := by
  refine Ev.congr (fun k => by rw [cmp_Or_int.f]) ?_
  by_cases c : x = 0
  · rw [if_pos c]
    refine Ev.step (f := fun k => cmp_Or_int.l0 k 0 [x, y] 2 1) (fun k => ?_) ?_
    · rw [cmp_Or_int.l0, if_pos (by simp), if_pos (by omega), if_pos (by simp)]
      rw [show rd [x, y] 0 = x from rfl, if_pos c, w64 (by omega) (by omega)]; rfl
    · by_cases c2 : y = 0
      · refine Ev.step (f := fun k => cmp_Or_int.l0 k 0 [x, y] 2 2) (fun k => ?_) (Ev.step (f := fun _ => some y) (fun k => ?_) (Ev.now _))
        · rw [cmp_Or_int.l0, if_pos (by omega), if_pos (by omega), if_pos (by simp)]
          rw [show rd [x, y] 1 = y from rfl, if_pos c2, w64 (by omega) (by omega)]; rfl
        · rw [cmp_Or_int.l0, if_neg (by omega), c2]
      · refine Ev.step (f := fun _ => some y) (fun k => ?_) (Ev.now _)
        rw [cmp_Or_int.l0, if_pos (by omega), if_pos (by omega), if_pos (by simp)]
        rw [show rd [x, y] 1 = y from rfl, if_neg c2]
  · rw [if_neg c]
    refine Ev.step (f := fun _ => some x) (fun k => ?_) (Ev.now _)
    rw [cmp_Or_int.l0, if_pos (by simp), if_pos (by omega), if_pos (by simp)]
    rw [show rd [x, y] 0 = x from rfl, if_neg c]
theorem implCompare_ev (r : Int) (a : List Int) (r' : Int) (b : List Int) (ha : a.length ≤ 140737488355328) (hb : b.length ≤ 140737488355328) : Ev (fun k => impl_CompareFacts.f k r a r' b) (cmpF r a r' b) := by
  refine Ev.congr (fun k => by rw [impl_CompareFacts.f, cmpCompare_f, Option.bind_some]) ?_
  refine Ev.bind (slicesCompare_ev a b ha hb) ?_
  have h := cmpOr_ev (cmpI r r') (cmpL a b)
  have e : (if cmpI r r' = 0 then cmpL a b else cmpI r r') = cmpF r a r' b := by
    unfold cmpF cmpI
    by_cases c1 : r < r'
    · simp [c1]
    · by_cases c2 : r > r'
      · simp [c1, c2]
      · simp [c1, c2]
  rw [e] at h
  exact Ev.bind h (Ev.now _)

/-- The place of the first such fact from place i on, or -1. -/
def plc (l : List IFact) (r : Int) (v : List Int) (i : Nat) : Nat → Int
  | 0 => -1
  | d + 1 => if cmpF (l.getD i z39).f0 (l.getD i z39).f1 r v = 0 then (i : Int) else plc l r v (i + 1) d
def hasF (l : List IFact) (r : Int) (v : List Int) : Bool := l.any (fun x => cmpF x.f0 x.f1 r v == 0)
theorem plc_neg (l : List IFact) (r : Int) (v : List Int) : ∀ (d i : Nat), i + d = l.length → decide (plc l r v i d < 0) = !hasF (l.drop i) r v := by
  intro d
  induction d with
  | zero =>
    intro i hi
    have e1 : l.drop i = [] := by rw [List.drop_eq_nil_iff]; omega
    rw [e1]; rfl
  | succ d ih =>
    intro i hi
    have e : l.getD i z39 = l[i] := by have := getD_get l z39 i (by omega); rwa [Int.toNat_natCast] at this
    rw [drop_get l i (by omega), plc, e]
    unfold hasF
    rw [List.any_cons]
    by_cases c : cmpF l[i].f0 l[i].f1 r v = 0
    · rw [if_pos c, c, decide_eq_false (by omega)]; rfl
    · rw [if_neg c, ih (i + 1) (by omega), beq_eq_false_iff_ne.2 c, Bool.false_or]; rfl
theorem specPlace_ev (q : List IRel) (l : List IFact) (r : Int) (v : List Int) (hl : l.length ≤ 140737488355328) (g : ∀ x ∈ l, x.f1.length ≤ 140737488355328) (hv : v.length ≤ 140737488355328) :
    Ev (fun k => spec_l5Place.f k q l r v) (plc l r v 0 l.length) := by
  have loop : ∀ (d i : Nat), i + d = l.length → Ev (fun k => spec_l5Place.l0 k i q l r v) (plc l r v i d) := by
    intro d
    induction d with
    | zero =>
      intro i hi
      refine Ev.step (f := fun _ => some (-1)) (fun k => ?_) (Ev.now _)
      rw [spec_l5Place.l0, if_neg (by omega)]
    | succ d ih =>
      intro i hi
      have e : l.getD i z39 = l[i] := by have := getD_get l z39 i (by omega); rwa [Int.toNat_natCast] at this
      refine Ev.step (f := fun k => (spec_CompareFacts.f k l[i].f0 l[i].f1 r v).bind fun t => if t = 0 then some (i : Int) else spec_l5Place.l0 k ((i + 1 : Nat) : Int) q l r v) (fun k => ?_) ?_
      · rw [spec_l5Place.l0, if_pos (by omega), if_pos (by omega), rdF l i (by omega), w64_succ (by omega)]
      · refine Ev.bind (specCompare_ev _ _ _ _ (g _ (List.getElem_mem (by omega))) hv) ?_
        rw [plc, e]
        by_cases c : cmpF l[i].f0 l[i].f1 r v = 0
        · simp only [c, if_true]; exact Ev.now _
        · simp only [c, if_false]; exact ih (i + 1) (by omega)
  exact Ev.congr (fun k => by rw [spec_l5Place.f]; rfl) (loop l.length 0 (by omega))

theorem sameFact_ev (r : Int) (a : List Int) (r' : Int) (b : List Int) (ha : a.length ≤ 140737488355328) (hb : b.length ≤ 140737488355328) : Ev (fun k => impl_sameFact.f k r a r' b) (cmpF r a r' b == 0) := by
  refine Ev.congr (fun k => by rw [impl_sameFact.f]) ?_
  exact Ev.bind (implCompare_ev _ _ _ _ ha hb) (Ev.now _)

theorem hasFact_ev (l : List IFact) (r : Int) (v : List Int) (hl : l.length ≤ 140737488355328) (g : ∀ x ∈ l, x.f1.length ≤ 140737488355328) (hv : v.length ≤ 140737488355328) :
    Ev (fun k => impl_hasFact.f k l r v) (hasF l r v) := by
  have loop : ∀ (d i : Nat), i + d = l.length → Ev (fun k => slices_IndexFunc_impl_Fact_impl_Fact_chasFact_1.l0 k l l.length i r v) (plc l r v i d) := by
    intro d
    induction d with
    | zero =>
      intro i hi
      refine Ev.step (f := fun _ => some (-1)) (fun k => ?_) (Ev.now _)
      rw [slices_IndexFunc_impl_Fact_impl_Fact_chasFact_1.l0, if_neg (by omega)]
    | succ d ih =>
      intro i hi
      have e : l.getD i z39 = l[i] := by have := getD_get l z39 i (by omega); rwa [Int.toNat_natCast] at this
      have hz := g l[i] (List.getElem_mem (by omega))
      refine Ev.step (f := fun k => (impl_hasFact_1.f k l[i].f0 l[i].f1 r v).bind fun t => if t = true then some (i : Int) else slices_IndexFunc_impl_Fact_impl_Fact_chasFact_1.l0 k l l.length ((i + 1 : Nat) : Int) r v) (fun k => ?_) ?_
      · rw [slices_IndexFunc_impl_Fact_impl_Fact_chasFact_1.l0, if_pos (by omega), if_pos (by omega), if_pos (by omega), rdF l i (by omega), w64_succ (by omega)]
      · have hc : Ev (fun k => impl_hasFact_1.f k l[i].f0 l[i].f1 r v) (cmpF l[i].f0 l[i].f1 r v == 0) := Ev.congr (fun k => by rw [impl_hasFact_1.f]) (Ev.bind (sameFact_ev _ _ _ _ hz hv) (Ev.now _))
        refine Ev.bind hc ?_
        rw [plc, e]
        by_cases c : cmpF l[i].f0 l[i].f1 r v = 0
        · simp only [c, if_true, beq_self_eq_true]; exact Ev.now _
        · rw [beq_eq_false_iff_ne.2 c]
          simp only [c, if_false, Bool.false_eq_true]
          exact ih (i + 1) (by omega)
  refine Ev.congr (fun k => by rw [impl_hasFact.f, slices_ContainsFunc_impl_Fact_impl_Fact_chasFact_1.f, slices_IndexFunc_impl_Fact_impl_Fact_chasFact_1.f]) ?_
  refine Ev.bind (Ev.bind (loop l.length 0 (by omega)) (Ev.now _)) ?_
  have h := plc_neg l r v l.length 0 (by omega)
  rw [List.drop_zero] at h
  have h2 : decide (plc l r v 0 l.length ≥ 0) = hasF l r v := by
    have h3 := congrArg (fun b => !b) h
    simp only [Bool.not_not] at h3
    rw [← h3, ← decide_not]
    exact decide_eq_decide.2 (by omega)
  rw [h2]
  exact Ev.now _

def subF (a b : List IFact) : Bool := a.all (fun x => hasF b x.f0 x.f1)
theorem specSubset_ev (q : List IRel) (a : List IFact) (q2 : List IRel) (b : List IFact) (ha : a.length ≤ 1048576) (hb : b.length ≤ 1048576) (ga : ∀ x ∈ a, x.f1.length ≤ 1048576) (gb : ∀ x ∈ b, x.f1.length ≤ 1048576) :
    Ev (fun k => spec_IsSubset.f k q a q2 b) (subF a b) := by
  have loop : ∀ (d i : Nat), i + d = a.length → Ev (fun k => spec_IsSubset.l0 k i q a q2 b) (subF (a.drop i) b) := by
    intro d
    induction d with
    | zero =>
      intro i hi
      have e1 : a.drop i = [] := by rw [List.drop_eq_nil_iff]; omega
      rw [e1]
      refine Ev.step (f := fun _ => some true) (fun k => ?_) (Ev.now _)
      rw [spec_IsSubset.l0, if_neg (by omega)]
    | succ d ih =>
      intro i hi
      have hz := ga a[i] (List.getElem_mem (by omega))
      rw [drop_get a i (by omega)]
      refine Ev.step (f := fun k => (spec_l5Place.f k q2 b a[i].f0 a[i].f1).bind fun t => if t < 0 then some false else spec_IsSubset.l0 k ((i + 1 : Nat) : Int) q a q2 b) (fun k => ?_) ?_
      · rw [spec_IsSubset.l0, if_pos (by omega), if_pos (by omega), rdF a i (by omega), w64_succ (by omega)]
      · refine Ev.bind (specPlace_ev q2 b _ _ (by omega) (fun x hx => Nat.le_trans (gb x hx) (by omega)) (by omega)) ?_
        have h := plc_neg b a[i].f0 a[i].f1 b.length 0 (by omega)
        rw [List.drop_zero] at h
        unfold subF
        rw [List.all_cons]
        cases c : hasF b a[i].f0 a[i].f1 with
        | true =>
          rw [c] at h
          have h2 := of_decide_eq_false h
          simp only [h2, if_false, Bool.true_and]
          exact ih (i + 1) (by omega)
        | false =>
          rw [c] at h
          have h2 := of_decide_eq_true h
          simp only [h2, if_true, Bool.false_and]
          exact Ev.now _
  exact Ev.congr (fun k => by rw [spec_IsSubset.f]; rfl) (loop a.length 0 (by omega))
theorem implSubset_ev (q : List IRel) (a : List IFact) (q2 : List IRel) (b : List IFact) (ha : a.length ≤ 1048576) (hb : b.length ≤ 1048576) (ga : ∀ x ∈ a, x.f1.length ≤ 1048576) (gb : ∀ x ∈ b, x.f1.length ≤ 1048576) :
    Ev (fun k => impl_IsSubset.f k q a q2 b) (subF a b) := by
  have loop : ∀ (d i : Nat), i + d = a.length → ∃ r : Int, Ev (fun k => slices_IndexFunc_impl_Fact_impl_Fact_cIsSubset_1.l0 k a a.length i q2 b) r ∧ decide (r ≥ 0) = !subF (a.drop i) b := by
    intro d
    induction d with
    | zero =>
      intro i hi
      have e1 : a.drop i = [] := by rw [List.drop_eq_nil_iff]; omega
      rw [e1]
      refine ⟨-1, Ev.step (f := fun _ => some (-1)) (fun k => ?_) (Ev.now _), rfl⟩
      rw [slices_IndexFunc_impl_Fact_impl_Fact_cIsSubset_1.l0, if_neg (by omega)]
    | succ d ih =>
      intro i hi
      have hz := ga a[i] (List.getElem_mem (by omega))
      rw [drop_get a i (by omega)]
      have hstep : ∀ k, slices_IndexFunc_impl_Fact_impl_Fact_cIsSubset_1.l0 (k + 1) a a.length i q2 b = (impl_IsSubset_1.f k a[i].f0 a[i].f1 q2 b).bind fun t => if t = true then some (i : Int) else slices_IndexFunc_impl_Fact_impl_Fact_cIsSubset_1.l0 k a a.length ((i + 1 : Nat) : Int) q2 b := fun k => by
        rw [slices_IndexFunc_impl_Fact_impl_Fact_cIsSubset_1.l0, if_pos (by omega), if_pos (by omega), if_pos (by omega), rdF a i (by omega), w64_succ (by omega)]
      have hc : Ev (fun k => impl_IsSubset_1.f k a[i].f0 a[i].f1 q2 b) (!hasF b a[i].f0 a[i].f1) := Ev.congr (fun k => by rw [impl_IsSubset_1.f]) (Ev.bind (hasFact_ev b _ _ (by omega) (fun x hx => Nat.le_trans (gb x hx) (by omega)) (by omega)) (Ev.now _))
      unfold subF at ih ⊢
      rw [List.all_cons]
      cases c : hasF b a[i].f0 a[i].f1 with
      | true =>
        rw [c] at hc
        obtain ⟨r, er, hr⟩ := ih (i + 1) (by omega)
        refine ⟨r, Ev.step (f := fun k => (impl_IsSubset_1.f k a[i].f0 a[i].f1 q2 b).bind fun t => if t = true then some (i : Int) else slices_IndexFunc_impl_Fact_impl_Fact_cIsSubset_1.l0 k a a.length ((i + 1 : Nat) : Int) q2 b) hstep (Ev.bind hc ?_), by rw [hr]; simp⟩
        simp only [Bool.not_true, Bool.false_eq_true, if_false]
        exact er
      | false =>
        rw [c] at hc
        refine ⟨i, Ev.step (f := fun k => (impl_IsSubset_1.f k a[i].f0 a[i].f1 q2 b).bind fun t => if t = true then some (i : Int) else slices_IndexFunc_impl_Fact_impl_Fact_cIsSubset_1.l0 k a a.length ((i + 1 : Nat) : Int) q2 b) hstep (Ev.bind hc ?_), by simp⟩
        simp only [Bool.not_false, if_true]
        exact Ev.now _
  obtain ⟨r, er, hr⟩ := loop a.length 0 (by omega)
  rw [List.drop_zero] at hr
  refine Ev.congr (fun k => by rw [impl_IsSubset.f, slices_ContainsFunc_impl_Fact_impl_Fact_cIsSubset_1.f, slices_IndexFunc_impl_Fact_impl_Fact_cIsSubset_1.f]) ?_
  refine Ev.bind (Ev.bind er (Ev.now _)) ?_
  rw [hr, Bool.not_not]
  exact Ev.now _

theorem FnExactIsSubset (l0_0 : List S80) (l0_1 : List S36) (l1_0 : List S80) (l1_1 : List S36) (g0_0 : (GL (fun x : S80 => GP GS (GP GI GB) (x.f0, x.f1, x.f2))) l0_0) (g0_1 : (GL (fun x : S36 => GP GI (GL GI) (x.f0, x.f1))) l0_1) (g1_0 : (GL (fun x : S80 => GP GS (GP GI GB) (x.f0, x.f1, x.f2))) l1_0) (g1_1 : (GL (fun x : S36 => GP GI (GL GI) (x.f0, x.f1))) l1_1) : ∃ k, laws_FnExactIsSubset.f k l0_0 l0_1 l1_0 l1_1 = some true := by
  obtain ⟨r, e, h⟩ := szInst_ev l0_0 l0_1 g0_0 g0_1 1048576 (by omega) (by omega)
  refine Ev.rounds (r := true) (Ev.congr (fun k => by rw [laws_FnExactIsSubset.f]) (Ev.bind e ?_))
  rcases h with h | h
  · simp only [h, if_true]; exact Ev.now _
  · simp only [show ¬ r < 0 by omega, if_false]
    obtain ⟨r2, e2, h2⟩ := szInst_ev l1_0 l1_1 g1_0 g1_1 r (by omega) (by omega)
    refine Ev.bind e2 ?_
    rcases h2 with h2 | h2
    · simp only [h2, if_true]; exact Ev.now _
    · simp only [show ¬ r2 < 0 by omega, if_false]
      have n1 : (l0_0.map toRel).length ≤ 1048576 := by simp; omega
      have n2 : (l0_1.map toFct).length ≤ 1048576 := by simp; omega
      have n3 : (l1_0.map toRel).length ≤ 1048576 := by simp; omega
      have n4 : (l1_1.map toFct).length ≤ 1048576 := by simp; omega
      have t1 := toInst_ev l0_0 l0_1 (by omega) (by omega) (by omega)
      have t2 := toInst_ev l1_0 l1_1 (by omega) (by omega) (by omega)
      have f1 := toFct_len (f := l0_1) (by omega)
      have f2 := toFct_len (f := l1_1) (by omega)
      refine Ev.bind t1 (Ev.bind t2 (Ev.bind (specSubset_ev _ _ _ _ n2 n4 f1 f2) (Ev.bind t1 (Ev.bind t2 (Ev.bind (implSubset_ev _ _ _ _ n2 n4 f1 f2) ?_)))))
      simp only [bne_self_eq_false, Bool.false_eq_true, if_false]
      refine Ev.bind t1 (Ev.bind (eqInst_ev _ _ (by omega) (by omega) (fun x hx => Nat.le_trans (f1 x hx) (by omega))) ?_)
      simp only [if_true]
      refine Ev.bind t2 (Ev.bind (eqInst_ev _ _ (by omega) (by omega) (fun x hx => Nat.le_trans (f2 x hx) (by omega))) ?_)
      simp only [if_true]
      exact Ev.now _

end Go.Proofs.Ytjphbdnfbkfgiaa.Pure
