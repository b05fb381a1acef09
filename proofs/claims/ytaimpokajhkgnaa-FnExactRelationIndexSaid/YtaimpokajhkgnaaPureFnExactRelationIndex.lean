/- RelationIndex of the program and of the reference agree, for every list of relations and every name (past the law's own size bound it answers true itself). -/
import Derived.Test.YtaimpokajhkgnaaPFnExactRelationIndexx2
import Derived.Test.YtaimpokajhkgnaaOpens
import Derived.Test.YtaimpokajhkgnaaPlain
namespace Go.Proofs.Ytaimpokajhkgnaa.Pure
open Go.RowKit Go.Proofs.Ytaimpokajhkgnaa.PFnExactRelationIndex Go.Proofs.YtaimpokajhkgnaaW.PrintWords Go.Proofs.YtaimpokajhkgnaaW.PrintLast Go.Proofs.YtaimpokajhkgnaaW.PrintMore Go.Proofs.Ytaimpokajhkgnaa.Opens Go.Proofs.Ytaimpokajhkgnaa.Plain
set_option linter.unusedVariables false
set_option linter.unusedSimpArgs false

abbrev LRel := S63
abbrev IRel := S64
def toRel (x : LRel) : IRel := ⟨x.f0, x.f1, x.f2⟩
theorem szRelationS_ev (l : List LRel) (hl : l.length ≤ 9223372036854775807) (g : ∀ x ∈ l, x.f0.size ≤ 9223372036854775807) (a : Int) (h0 : 0 ≤ a) (h1 : a ≤ 1048576) :
    ∃ r, Ev (fun k => laws_szRelationS.f k l a) r ∧ (r < 0 ∨ 0 ≤ r ∧ r + l.length ≤ a) := by
  have loop : ∀ (d i : Nat) (x : Int), i + d = l.length → 0 ≤ x → x ≤ 1048576 → ∃ r, Ev (fun k => laws_szRelationS.l0 k l x i) r ∧ (r < 0 ∨ 0 ≤ r ∧ r ≤ x) := by
    intro d
    induction d with
    | zero =>
      intro i x hi hx hx1
      exact ⟨x, Ev.step (f := fun _ => some x) (fun k => by rw [laws_szRelationS.l0, if_neg (by omega)]) (Ev.now _), .inr ⟨hx, Int.le_refl _⟩⟩
    | succ d ih =>
      intro i x hi hx hx1
      have hz := g l[i] (List.getElem_mem (by omega))
      have e : rd_T63 l (i : Int) = l[i] := getD_get l _ i (by omega)
      have hs : laws_szRelation.f l[i].f0 l[i].f1 l[i].f2 x = some (if x - (l[i].f0.size : Int) < 0 then -1 else x - (l[i].f0.size : Int)) := by
        unfold laws_szRelation.f
        rw [w64 (by omega) (by omega)]
        split <;> rfl
      by_cases c : x - (l[i].f0.size : Int) < 0
      · refine ⟨-1, Ev.step (f := fun _ => some (-1)) (fun k => ?_) (Ev.now _), .inl (by omega)⟩
        rw [laws_szRelationS.l0, if_pos (by omega), if_pos (by omega), e, hs, if_pos c, Option.bind_some, if_pos (by omega)]
      · obtain ⟨r, er, hr⟩ := ih (i + 1) (x - (l[i].f0.size : Int)) (by omega) (by omega) (by omega)
        refine ⟨r, Ev.step (f := fun k => laws_szRelationS.l0 k l (x - (l[i].f0.size : Int)) ((i + 1 : Nat) : Int)) (fun k => ?_) er, ?_⟩
        · rw [laws_szRelationS.l0, if_pos (by omega), if_pos (by omega), e, hs, if_neg c, Option.bind_some, if_neg c, w64_succ (by omega)]
        · omega
  by_cases c : a - (l.length : Int) < 0
  · refine ⟨-1, Ev.congr (f := fun _ => some (-1)) (fun k => ?_) (Ev.now _), .inl (by omega)⟩
    rw [laws_szRelationS.f, w64 (by omega) (by omega), if_pos c]
  · obtain ⟨r, er, hr⟩ := loop l.length 0 (a - l.length) (by omega) (by omega) (by omega)
    refine ⟨r, Ev.congr (fun k => ?_) er, by omega⟩
    rw [laws_szRelationS.f, w64 (by omega) (by omega), if_neg c]; rfl
theorem toRelationS_ev (l : List LRel) (hl : l.length ≤ 1048576) : Ev (fun k => laws_toRelationS.f k l) (l.map toRel) := by
  have loop : ∀ (d i : Nat), i + d = l.length → Ev (fun k => laws_toRelationS.l0 k l ((l.take i).map toRel ++ List.replicate (l.length - i) z64) i) (l.map toRel) := by
    intro d
    induction d with
    | zero =>
      intro i hi
      refine Ev.step (f := fun _ => some (l.map toRel)) (fun k => ?_) (Ev.now _)
      rw [laws_toRelationS.l0, if_neg (by omega)]
      simp [show l.length - i = 0 by omega, List.take_of_length_le (show l.length ≤ i by omega)]
    | succ d ih =>
      intro i hi
      have e : rd_T63 l (i : Int) = l[i] := getD_get l _ i (by omega)
      refine Ev.step (f := fun k => laws_toRelationS.l0 k l ((l.take (i + 1)).map toRel ++ List.replicate (l.length - (i + 1)) z64) ((i + 1 : Nat) : Int)) (fun k => ?_) (ih (i + 1) (by omega))
      rw [laws_toRelationS.l0, if_pos (by omega), if_pos (by omega), e, laws_toRelation.f, Option.bind_some, if_pos (by rw [fill_len _ _ _ _ (by omega)]; omega), Int.toNat_natCast, w64_succ (by omega)]
      have e2 := fill_step toRel l z64 i (by omega)
      rw [← e2]
      rfl
  refine Ev.congr (f := fun k => laws_toRelationS.l0 k l (List.replicate l.length z64) 0) (fun k => ?_) ?_
  · rw [laws_toRelationS.f, if_pos (by omega), if_pos (by omega)]; rfl
  · have e := loop l.length 0 (by omega)
    simpa using e
theorem eqRelationS_ev (l : List IRel) (hl : l.length ≤ 140737488355328) : Ev (fun k => laws_eqRelationS.f k l l) true := by
  have loop : ∀ (d i : Nat), i + d = l.length → Ev (fun k => laws_eqRelationS.l0 k l l i) true := by
    intro d
    induction d with
    | zero =>
      intro i hi
      refine Ev.step (f := fun _ => some true) (fun k => ?_) (Ev.now _)
      rw [laws_eqRelationS.l0, if_neg (by omega)]
    | succ d ih =>
      intro i hi
      refine Ev.step (f := fun k => laws_eqRelationS.l0 k l l ((i + 1 : Nat) : Int)) (fun k => ?_) (ih (i + 1) (by omega))
      rw [laws_eqRelationS.l0, if_pos (by omega), if_pos (by omega), if_pos (by omega), laws_eqRelation.f, if_pos rfl, if_pos rfl, bne_self_eq_false, if_neg (by simp), Option.bind_some, if_pos rfl, w64_succ (by omega)]
  refine Ev.congr (f := fun k => laws_eqRelationS.l0 k l l 0) (fun k => ?_) (loop l.length 0 (by omega))
  rw [laws_eqRelationS.f, if_pos rfl]

theorem rdR0 (l : List IRel) (i : Nat) : rd_T64 l (i : Int) = l.getD i z64 := by unfold rd_T64; rw [Int.toNat_natCast]
/-- The place of the first relation of this name from place i on, or -1. -/
def relIdx (l : List IRel) (s : ByteArray) (i : Nat) : Nat → Int
  | 0 => -1
  | d + 1 => if (l.getD i z64).f0.toList = s.toList then (i : Int) else relIdx l s (i + 1) d
theorem specRelIdx_ev (l : List IRel) (s : ByteArray) (hl : l.length ≤ 140737488355328) : Ev (fun k => spec_RelationIndex.f k l s) (relIdx l s 0 l.length) := by
  have loop : ∀ (d i : Nat), i + d = l.length → Ev (fun k => spec_RelationIndex.l0 k l s i) (relIdx l s i d) := by
    intro d
    induction d with
    | zero =>
      intro i hi
      refine Ev.step (f := fun _ => some (-1)) (fun k => ?_) (Ev.now _)
      rw [spec_RelationIndex.l0, if_neg (by omega)]
    | succ d ih =>
      intro i hi
      refine Ev.step (f := fun k => if (l.getD i z64).f0.toList = s.toList then some (i : Int) else spec_RelationIndex.l0 k l s ((i + 1 : Nat) : Int)) (fun k => ?_) ?_
      · rw [spec_RelationIndex.l0, if_pos (by omega), if_pos (by omega), rdR0, w64_succ (by omega)]
      · rw [relIdx]
        by_cases e2 : (l.getD i z64).f0.toList = s.toList
        · simp only [e2, if_true]; exact Ev.now _
        · simp only [e2, if_false]; exact ih (i + 1) (by omega)
  exact Ev.congr (fun k => by rw [spec_RelationIndex.f]; rfl) (loop l.length 0 (by omega))
theorem implRelIdx_ev (l : List IRel) (s : ByteArray) (hl : l.length ≤ 140737488355328) : Ev (fun k => impl_RelationIndex.f k l s) (relIdx l s 0 l.length) := by
  have loop : ∀ (d i : Nat), i + d = l.length → Ev (fun k => slices_IndexFunc_impl_Relation_impl_Relation_cRelationIndex_1.l0 k l l.length i s) (relIdx l s i d) := by
    intro d
    induction d with
    | zero =>
      intro i hi
      refine Ev.step (f := fun _ => some (-1)) (fun k => ?_) (Ev.now _)
      rw [slices_IndexFunc_impl_Relation_impl_Relation_cRelationIndex_1.l0, if_neg (by omega)]
    | succ d ih =>
      intro i hi
      refine Ev.step (f := fun k => if (l.getD i z64).f0.toList = s.toList then some (i : Int) else slices_IndexFunc_impl_Relation_impl_Relation_cRelationIndex_1.l0 k l l.length ((i + 1 : Nat) : Int) s) (fun k => ?_) ?_
      · rw [slices_IndexFunc_impl_Relation_impl_Relation_cRelationIndex_1.l0, if_pos (by omega), if_pos (by omega), if_pos (by omega), rdR0, impl_RelationIndex_1.f, Option.bind_some, w64_succ (by omega)]
        simp only [beq_iff_eq]
      · rw [relIdx]
        by_cases e2 : (l.getD i z64).f0.toList = s.toList
        · simp only [e2, if_true]; exact Ev.now _
        · simp only [e2, if_false]; exact ih (i + 1) (by omega)
  refine Ev.congr (fun k => by rw [impl_RelationIndex.f, slices_IndexFunc_impl_Relation_impl_Relation_cRelationIndex_1.f]) ?_
  exact Ev.bind (loop l.length 0 (by omega)) (Ev.now _)

theorem FnExactRelationIndex (l0 : List S63) (a1 : ByteArray) (g0 : (GL (fun x : S63 => GP GS (GP GI GB) (x.f0, x.f1, x.f2))) l0) (g1 : GS a1) : ∃ k, laws_FnExactRelationIndex.f k l0 a1 = some true := by
  by_cases ha : (a1.size : Int) > 1048576
  · exact ⟨0, by unfold laws_FnExactRelationIndex.f; rw [if_pos ha]⟩
  obtain ⟨r, e, h⟩ := szRelationS_ev l0 g0.1 (fun x hx => (g0.2 x hx).1) 1048576 (by omega) (by omega)
  refine Ev.rounds (r := true) (Ev.congr (fun k => by rw [laws_FnExactRelationIndex.f, if_neg ha]) (Ev.bind e ?_))
  rcases h with h | h
  · simp only [h, if_true]; exact Ev.now _
  · simp only [show ¬ r < 0 by omega, if_false]
    refine Ev.bind (toRelationS_ev _ (by omega)) (Ev.bind (specRelIdx_ev _ _ (by simp; omega)) (Ev.bind (toRelationS_ev _ (by omega)) (Ev.bind (implRelIdx_ev _ _ (by simp; omega)) ?_)))
    simp only [if_true]
    refine Ev.bind (toRelationS_ev _ (by omega)) (Ev.bind (eqRelationS_ev _ (by simp; omega)) ?_)
    simp only [if_true]
    exact Ev.now _

end Go.Proofs.Ytaimpokajhkgnaa.Pure
