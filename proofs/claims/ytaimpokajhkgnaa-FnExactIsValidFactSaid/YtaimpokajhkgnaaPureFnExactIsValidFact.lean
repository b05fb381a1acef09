/- IsValidFact of the program and of the reference agree, for every list of relations and every fact (past the law's own size bound it answers true itself). -/
import Derived.Test.YtaimpokajhkgnaaPFnExactIsValidFactx10
import Derived.Test.YtaimpokajhkgnaaOpens
import Derived.Test.YtaimpokajhkgnaaPlain
namespace Go.Proofs.Ytaimpokajhkgnaa.Pure
open Go.RowKit Go.Proofs.Ytaimpokajhkgnaa.PFnExactIsValidFact Go.Proofs.YtaimpokajhkgnaaW.PrintWords Go.Proofs.YtaimpokajhkgnaaW.PrintLast Go.Proofs.YtaimpokajhkgnaaW.PrintMore Go.Proofs.Ytaimpokajhkgnaa.Opens Go.Proofs.Ytaimpokajhkgnaa.Plain
set_option linter.unusedVariables false
set_option linter.unusedSimpArgs false

theorem l1In_f (a b c : Int) : spec_l1In.f a b c = some (decide (b ≤ a ∧ a ≤ c)) := by
  unfold spec_l1In.f
  by_cases h : b ≤ a <;> simp [h]

theorem within_f (a b c : Int) : impl_within.f a b c = some (decide (b ≤ a ∧ a ≤ c)) := by
  unfold impl_within.f
  by_cases h : b ≤ a <;> simp [h]

abbrev LRel := S63
abbrev IRel := S64
def toRel (x : LRel) : IRel := ⟨x.f0, x.f1, x.f2⟩
theorem szRelationS_ev (l : List LRel) (hl : l.length ≤ 9223372036854775807) (g : ∀ x ∈ l, x.f0.size ≤ 9223372036854775807) (a : Int) (h0 : 0 ≤ a) (h1 : a ≤ 1048576) :
    ∃ r, Ev (fun k => laws_szRelationS.f k l a) r ∧ (r < 0 ∨ 0 ≤ r ∧ r + l.length ≤ a) := by
  have loop : ∀ (d i : Nat) (x : Int), i + d = l.length → 0 ≤ x → x ≤ 1048576 → ∃ r, Ev (fun k => laws_szRelationS.l0 k l x i) r ∧ (r < 0 ∨ 0 ≤ r ∧ r ≤ x) := by
    intro d
    induction d with
    | zero =>
      intro i x hi hx hx1
      exact ⟨x, Ev.step (f := fun _ => some x) (fun k => by rw [laws_szRelationS.l0, if_neg (by omega)]) (Ev.now _), .inr ⟨hx, Int.le_refl _⟩⟩
    | succ d ih =>
      intro i x hi hx hx1
      have hz := g l[i] (List.getElem_mem (by omega))
      have e : rd_T63 l (i : Int) = l[i] := getD_get l _ i (by omega)
      have hs : laws_szRelation.f l[i].f0 l[i].f1 l[i].f2 x = some (if x - (l[i].f0.size : Int) < 0 then -1 else x - (l[i].f0.size : Int)) := by
        unfold laws_szRelation.f
        rw [w64 (by omega) (by omega)]
        split <;> rfl
      by_cases c : x - (l[i].f0.size : Int) < 0
      · refine ⟨-1, Ev.step (f := fun _ => some (-1)) (fun k => ?_) (Ev.now _), .inl (by omega)⟩
        rw [laws_szRelationS.l0, if_pos (by omega), if_pos (by omega), e, hs, if_pos c, Option.bind_some, if_pos (by omega)]
      · obtain ⟨r, er, hr⟩ := ih (i + 1) (x - (l[i].f0.size : Int)) (by omega) (by omega) (by omega)
        refine ⟨r, Ev.step (f := fun k => laws_szRelationS.l0 k l (x - (l[i].f0.size : Int)) ((i + 1 : Nat) : Int)) (fun k => ?_) er, ?_⟩
        · rw [laws_szRelationS.l0, if_pos (by omega), if_pos (by omega), e, hs, if_neg c, Option.bind_some, if_neg c, w64_succ (by omega)]
        · omega
  by_cases c : a - (l.length : Int) < 0
  · refine ⟨-1, Ev.congr (f := fun _ => some (-1)) (fun k => ?_) (Ev.now _), .inl (by omega)⟩
    rw [laws_szRelationS.f, w64 (by omega) (by omega), if_pos c]
  · obtain ⟨r, er, hr⟩ := loop l.length 0 (a - l.length) (by omega) (by omega) (by omega)
    refine ⟨r, Ev.congr (fun k => ?_) er, by omega⟩
    rw [laws_szRelationS.f, w64 (by omega) (by omega), if_neg c]; rfl
theorem toRelationS_ev (l : List LRel) (hl : l.length ≤ 1048576) : Ev (fun k => laws_toRelationS.f k l) (l.map toRel) := by
  have loop : ∀ (d i : Nat), i + d = l.length → Ev (fun k => laws_toRelationS.l0 k l ((l.take i).map toRel ++ List.replicate (l.length - i) z64) i) (l.map toRel) := by
    intro d
    induction d with
    | zero =>
      intro i hi
      refine Ev.step (f := fun _ => some (l.map toRel)) (fun k => ?_) (Ev.now _)
      rw [laws_toRelationS.l0, if_neg (by omega)]
      simp [show l.length - i = 0 by omega, List.take_of_length_le (show l.length ≤ i by omega)]
    | succ d ih =>
      intro i hi
      have e : rd_T63 l (i : Int) = l[i] := getD_get l _ i (by omega)
      refine Ev.step (f := fun k => laws_toRelationS.l0 k l ((l.take (i + 1)).map toRel ++ List.replicate (l.length - (i + 1)) z64) ((i + 1 : Nat) : Int)) (fun k => ?_) (ih (i + 1) (by omega))
      rw [laws_toRelationS.l0, if_pos (by omega), if_pos (by omega), e, laws_toRelation.f, Option.bind_some, if_pos (by rw [fill_len _ _ _ _ (by omega)]; omega), Int.toNat_natCast, w64_succ (by omega)]
      have e2 := fill_step toRel l z64 i (by omega)
      rw [← e2]
      rfl
  refine Ev.congr (f := fun k => laws_toRelationS.l0 k l (List.replicate l.length z64) 0) (fun k => ?_) ?_
  · rw [laws_toRelationS.f, if_pos (by omega), if_pos (by omega)]; rfl
  · have e := loop l.length 0 (by omega)
    simpa using e
theorem eqRelationS_ev (l : List IRel) (hl : l.length ≤ 140737488355328) : Ev (fun k => laws_eqRelationS.f k l l) true := by
  have loop : ∀ (d i : Nat), i + d = l.length → Ev (fun k => laws_eqRelationS.l0 k l l i) true := by
    intro d
    induction d with
    | zero =>
      intro i hi
      refine Ev.step (f := fun _ => some true) (fun k => ?_) (Ev.now _)
      rw [laws_eqRelationS.l0, if_neg (by omega)]
    | succ d ih =>
      intro i hi
      refine Ev.step (f := fun k => laws_eqRelationS.l0 k l l ((i + 1 : Nat) : Int)) (fun k => ?_) (ih (i + 1) (by omega))
      rw [laws_eqRelationS.l0, if_pos (by omega), if_pos (by omega), if_pos (by omega), laws_eqRelation.f, if_pos rfl, if_pos rfl, bne_self_eq_false, if_neg (by simp), Option.bind_some, if_pos rfl, w64_succ (by omega)]
  refine Ev.congr (f := fun k => laws_eqRelationS.l0 k l l 0) (fun k => ?_) (loop l.length 0 (by omega))
  rw [laws_eqRelationS.f, if_pos rfl]

theorem szIntS_f (l : List Int) (hl : l.length ≤ 9223372036854775807) (a : Int) (h0 : 0 ≤ a) (h1 : a ≤ 1048576) :
    ∃ r, laws_szIntS.f l a = some r ∧ (r < 0 ∨ 0 ≤ r ∧ r + l.length ≤ a) := by
  unfold laws_szIntS.f
  rw [w64 (by omega) (by omega)]
  by_cases c : a - (l.length : Int) < 0
  · exact ⟨-1, by rw [if_pos c], .inl (by omega)⟩
  · exact ⟨a - l.length, by rw [if_neg c], .inr (by omega)⟩

theorem toIntS_ev (l : List Int) (hl : l.length ≤ 1048576) : Ev (fun k => laws_toIntS.f k l) l := by
  have loop : ∀ (d i : Nat), i + d = l.length → Ev (fun k => laws_toIntS.l0 k l ((l.take i).map id ++ List.replicate (l.length - i) 0) i) l := by
    intro d
    induction d with
    | zero =>
      intro i hi
      refine Ev.step (f := fun _ => some l) (fun k => ?_) (Ev.now _)
      rw [laws_toIntS.l0, if_neg (by omega)]
      simp [show l.length - i = 0 by omega, List.take_of_length_le (show l.length ≤ i by omega)]
    | succ d ih =>
      intro i hi
      refine Ev.step (f := fun k => laws_toIntS.l0 k l ((l.take (i + 1)).map id ++ List.replicate (l.length - (i + 1)) 0) ((i + 1 : Nat) : Int)) (fun k => ?_) (ih (i + 1) (by omega))
      rw [laws_toIntS.l0, if_pos (by omega), if_pos (by omega), if_pos (by rw [fill_len _ _ _ _ (by omega)]; omega), rd_get l i (by omega), Int.toNat_natCast, w64_succ (by omega)]
      have e := fill_step id l 0 i (by omega)
      rw [id_eq] at e
      rw [e]
  refine Ev.congr (f := fun k => laws_toIntS.l0 k l (List.replicate l.length 0) 0) (fun k => ?_) ?_
  · rw [laws_toIntS.f, if_pos (by omega), if_pos (by omega)]; rfl
  · have e := loop l.length 0 (by omega)
    simpa using e

theorem eqIntS_ev (l : List Int) (hl : l.length ≤ 140737488355328) : Ev (fun k => laws_eqIntS.f k l l) true := by
  have loop : ∀ (d i : Nat), i + d = l.length → Ev (fun k => laws_eqIntS.l0 k l l i) true := by
    intro d
    induction d with
    | zero =>
      intro i hi
      refine Ev.step (f := fun _ => some true) (fun k => ?_) (Ev.now _)
      rw [laws_eqIntS.l0, if_neg (by omega)]
    | succ d ih =>
      intro i hi
      refine Ev.step (f := fun k => laws_eqIntS.l0 k l l ((i + 1 : Nat) : Int)) (fun k => ?_) (ih (i + 1) (by omega))
      rw [laws_eqIntS.l0, if_pos (by omega), if_pos (by omega), if_pos (by omega), if_pos rfl, w64_succ (by omega)]
  refine Ev.congr (f := fun k => laws_eqIntS.l0 k l l 0) (fun k => ?_) (loop l.length 0 (by omega))
  rw [laws_eqIntS.f, if_pos rfl]

theorem szFact_f (r : Int) (v : List Int) (hv : v.length ≤ 9223372036854775807) (a : Int) (h0 : 0 ≤ a) (h1 : a ≤ 1048576) :
    ∃ s, laws_szFact.f r v a = some s ∧ (s < 0 ∨ 0 ≤ s ∧ s + v.length ≤ a) := by
  obtain ⟨s, e, h⟩ := szIntS_f v hv a h0 h1
  unfold laws_szFact.f
  rw [e, Option.bind_some]
  rcases h with h | h
  · exact ⟨-1, by rw [if_pos h], .inl (by omega)⟩
  · exact ⟨s, by rw [if_neg (by omega)], .inr h⟩
theorem toFact_ev (r : Int) (v : List Int) (hv : v.length ≤ 1048576) : Ev (fun k => laws_toFact.f k r v) (r, v) := by
  refine Ev.congr (fun k => by rw [laws_toFact.f]) ?_
  exact Ev.bind (toIntS_ev v hv) (Ev.now _)
theorem eqFact_ev (r : Int) (v : List Int) (hv : v.length ≤ 140737488355328) : Ev (fun k => laws_eqFact.f k r v r v) true := by
  refine Ev.congr (fun k => by rw [laws_eqFact.f, if_pos rfl]) ?_
  refine Ev.bind (eqIntS_ev v hv) ?_
  simp only [if_true]
  exact Ev.now _

/-- A relation is valid: a letter from a to z, an arity from 1 to 3. -/
def okRel3 (a : ByteArray) (b : Int) (_ : Bool) : Bool := decide (a.size = 1 ∧ 97 ≤ bt a 0 ∧ bt a 0 ≤ 122 ∧ 1 ≤ b ∧ b ≤ 3)
theorem specValidRel_f (a : ByteArray) (b : Int) (c : Bool) : spec_IsValidRelation.f a b c = some (okRel3 a b c) := by
  unfold spec_IsValidRelation.f okRel3
  by_cases h1 : a.size = 1
  · rw [if_pos (by omega), if_pos (by omega), l1In_f, Option.bind_some]
    by_cases h2 : bt a 0 ≥ 97
    · by_cases h3 : bt a 0 ≤ 122
      · rw [if_pos h2, if_pos h3]; exact congrArg some (decide_eq_decide.2 (by omega))
      · rw [if_pos h2, if_neg h3]; exact congrArg some (decide_eq_false (by omega)).symm
    · rw [if_neg h2]; exact congrArg some (decide_eq_false (by omega)).symm
  · rw [if_neg (by omega)]; exact congrArg some (decide_eq_false (by omega)).symm

def okRel (x : IRel) : Bool := okRel3 x.f0 x.f1 x.f2
theorem specValidRel_x (x : IRel) : spec_IsValidRelation.f x.f0 x.f1 x.f2 = some (okRel x) := specValidRel_f _ _ _
def okRels (l : List IRel) (i : Nat) : Nat → Bool
  | 0 => decide (l.length ≤ 6)
  | d + 1 => okRel (l.getD i z64) && (decide (i = 0) || Op.bytesLess (l.getD (i - 1) z64).f0.toList (l.getD i z64).f0.toList) && okRels l (i + 1) d
def validRels (l : List IRel) : Bool := okRels l 0 l.length
theorem rdR (l : List IRel) (i : Nat) : rd_T64 l (i : Int) = l.getD i z64 := by unfold rd_T64; rw [Int.toNat_natCast]
theorem specValidRels_ev (l : List IRel) (hl : l.length ≤ 140737488355328) : Ev (fun k => spec_AreValidRelations.f k l) (validRels l) := by
  have loop : ∀ (d i : Nat), i + d = l.length → Ev (fun k => spec_AreValidRelations.l0 k l i) (okRels l i d) := by
    intro d
    induction d with
    | zero =>
      intro i hi
      refine Ev.step (f := fun _ => some (okRels l i 0)) (fun k => ?_) (Ev.now _)
      rw [spec_AreValidRelations.l0, if_neg (by omega), okRels]; congr 1; simp; omega
    | succ d ih =>
      intro i hi
      have e := ih (i + 1) (by omega)
      refine Ev.step (f := fun k => if (okRel (l.getD i z64) && (decide (i = 0) || Op.bytesLess (l.getD (i - 1) z64).f0.toList (l.getD i z64).f0.toList)) = true then spec_AreValidRelations.l0 k l ((i + 1 : Nat) : Int) else some false) (fun k => ?_) ?_
      · rw [spec_AreValidRelations.l0, if_pos (by omega), if_pos (by omega), specValidRel_x, rdR, Option.bind_some, w64_succ (by omega)]
        by_cases c1 : okRel (l.getD i z64) = true
        · rw [if_pos c1]
          by_cases c2 : i = 0
          · rw [if_neg (by omega), if_pos]; rw [c1]; simp [c2]
          · rw [if_pos (by omega), w64 (by omega) (by omega), if_pos (by omega), if_pos (by omega), show ((i : Int) - 1) = ((i - 1 : Nat) : Int) by omega, rdR, c1, decide_eq_false c2, Bool.false_or, Bool.true_and]
        · rw [if_neg c1, if_neg]
          intro h
          simp only [Bool.and_eq_true] at h
          exact c1 h.1
      · rw [okRels]
        cases h : (okRel (l.getD i z64) && (decide (i = 0) || Op.bytesLess (l.getD (i - 1) z64).f0.toList (l.getD i z64).f0.toList)) with
        | true => simpa using e
        | false => simpa using Ev.now false
  exact Ev.congr (fun k => by rw [spec_AreValidRelations.f]; rfl) (loop l.length 0 (by omega))

theorem one_byte (s : ByteArray) (h : s.size = 1) : ∃ c : UInt8, s.toList = [c] ∧ bt s 0 = (c.toNat : Int) := by
  have hl : s.data.toList.length = 1 := by rw [data_length, h]
  match e : s.data.toList, hl with
  | [c], _ =>
    refine ⟨c, by rw [toList_data, e], ?_⟩
    have hb := rd_bytesOf s 0
    rw [← hb]
    unfold bytesOf rd
    rw [e]
    rfl
theorem less_one (c d : UInt8) : Op.bytesLess [c] [d] = decide ((c.toNat : Int) < d.toNat) := by
  simp only [Op.bytesLess, Bool.and_false, Bool.or_false]
  rw [Bool.eq_iff_iff]
  simp only [decide_eq_true_eq, UInt8.lt_iff_toNat_lt]
  omega
theorem implValidRel_f (a : ByteArray) (b : Int) (c : Bool) : impl_IsValidRelation.f a b c = some (okRel3 a b c) := by
  unfold impl_IsValidRelation.f okRel3
  by_cases h1 : a.size = 1
  · obtain ⟨x, hx, hb⟩ := one_byte a h1
    rw [if_pos (by omega), hx, less_one, less_one, within_f, Option.bind_some, hb]
    have e97 : ((97 : UInt8).toNat : Int) = 97 := rfl
    have e122 : ((122 : UInt8).toNat : Int) = 122 := rfl
    rw [e97, e122]
    by_cases h2 : ((x.toNat : Nat) : Int) < 97
    · rw [if_pos (by simpa using h2)]; exact congrArg some (decide_eq_false (by omega)).symm
    · rw [if_neg (by simpa using h2)]
      by_cases h3 : (122 : Int) < (x.toNat : Int)
      · rw [if_pos (by simpa using h3)]; exact congrArg some (decide_eq_false (by omega)).symm
      · rw [if_neg (by simpa using h3)]; exact congrArg some (decide_eq_decide.2 (by omega))
  · rw [if_neg (by omega)]; exact congrArg some (decide_eq_false (by omega)).symm

theorem implValidRel_x (x : IRel) : impl_IsValidRelation.f x.f0 x.f1 x.f2 = some (okRel x) := implValidRel_f _ _ _
theorem implValidRels_ev (l : List IRel) (hl : l.length ≤ 140737488355328) : Ev (fun k => impl_AreValidRelations.f k l) (validRels l) := by
  have loop : ∀ (d i : Nat), i + d = l.length → Ev (fun k => impl_AreValidRelations.l0 k l l l.length i) (okRels l i d) := by
    intro d
    induction d with
    | zero =>
      intro i hi
      refine Ev.step (f := fun _ => some (okRels l i 0)) (fun k => ?_) (Ev.now _)
      rw [impl_AreValidRelations.l0, if_neg (by omega), okRels]; congr 1; simp; omega
    | succ d ih =>
      intro i hi
      have e := ih (i + 1) (by omega)
      refine Ev.step (f := fun k => if (okRel (l.getD i z64) && (decide (i = 0) || Op.bytesLess (l.getD (i - 1) z64).f0.toList (l.getD i z64).f0.toList)) = true then impl_AreValidRelations.l0 k l l l.length ((i + 1 : Nat) : Int) else some false) (fun k => ?_) ?_
      · rw [impl_AreValidRelations.l0, if_pos (by omega), if_pos (by omega), if_pos (by omega), implValidRel_x, rdR, Option.bind_some, w64_succ (by omega)]
        by_cases c1 : okRel (l.getD i z64) = true
        · rw [if_pos c1]
          by_cases c2 : i = 0
          · rw [if_neg (by omega), if_pos]; rw [c1]; simp [c2]
          · rw [if_pos (by omega), w64 (by omega) (by omega), if_pos (by omega), if_pos (by omega), show ((i : Int) - 1) = ((i - 1 : Nat) : Int) by omega, rdR, c1, decide_eq_false c2, Bool.false_or, Bool.true_and]
        · rw [if_neg c1, if_neg]
          intro h
          simp only [Bool.and_eq_true] at h
          exact c1 h.1
      · rw [okRels]
        cases h : (okRel (l.getD i z64) && (decide (i = 0) || Op.bytesLess (l.getD (i - 1) z64).f0.toList (l.getD i z64).f0.toList)) with
        | true => simpa using e
        | false => simpa using Ev.now false
  exact Ev.congr (fun k => by rw [impl_AreValidRelations.f]; rfl) (loop l.length 0 (by omega))

def vv (x : Int) : Bool := decide (-40 ≤ x ∧ x ≤ 9)
theorem specNullNumber_f (x : Int) (h : GI x) : spec_NullNumber.f x = some (if -40 ≤ x ∧ x ≤ -1 then (-1 - x, true) else (0, false)) := by
  unfold GI at h
  unfold spec_NullNumber.f
  by_cases c : x ≥ 0
  · rw [if_pos c, if_neg (by omega)]
  · have e : wrap64 ((-1) - x) = -1 - x := w64 (by omega) (by omega)
    rw [if_neg c, e, l1In_f]
    simp only [Option.bind_some, decide_eq_true_eq]
    by_cases c2 : -40 ≤ x ∧ x ≤ -1
    · rw [if_pos c2, if_pos (by omega)]
    · rw [if_neg c2, if_neg (by omega)]
theorem specIsValidValue_f (x : Int) (h : GI x) : spec_IsValidValue.f x = some (vv x) := by
  unfold spec_IsValidValue.f vv
  rw [specNullNumber_f x h, Option.bind_some, l1In_f]
  by_cases c2 : -40 ≤ x ∧ x ≤ -1
  · rw [if_pos c2, if_pos rfl]; exact congrArg some (decide_eq_true (by omega)).symm
  · rw [if_neg c2, if_neg (by simp), Option.bind_some]; exact congrArg some (decide_eq_decide.2 (by omega))

theorem implIsValidValue_f (x : Int) : impl_IsValidValue.f x = some (vv x) := by
  unfold impl_IsValidValue.f vv
  rw [within_f, Option.bind_some]

theorem rdR1 (l : List IRel) (i : Int) : rd_T64 l i = l.getD i.toNat z64 := rfl
/-- A fact is valid over valid relations. -/
def validFact (l : List IRel) (r : Int) (v : List Int) : Bool :=
  validRels l && (decide (0 ≤ r ∧ r < l.length) && (decide ((v.length : Int) = (l.getD r.toNat z64).f1) && v.all vv))
theorem specValidFact_ev (l : List IRel) (r : Int) (v : List Int) (hl : l.length ≤ 1048576) (hv : v.length ≤ 1048576) (gv : ∀ x ∈ v, GI x) : Ev (fun k => spec_IsValidFact.f k l r v) (validFact l r v) := by
  have hf : ∀ b : Bool, Ev (fun k => spec_IsValidFact.j0 k b r v) (!b && v.all vv) := by
    intro b
    cases b with
    | true =>
      refine Ev.step (f := fun _ => some false) (fun k => ?_) (Ev.now _)
      rw [spec_IsValidFact.j0, if_pos rfl]
    | false =>
      have loop : ∀ (d i : Nat), i + d = v.length → Ev (fun k => spec_IsValidFact.l0 k i r v) ((v.drop i).all vv) := by
        intro d
        induction d with
        | zero =>
          intro i hi
          have e1 : v.drop i = [] := by rw [List.drop_eq_nil_iff]; omega
          rw [e1]
          refine Ev.step (f := fun _ => some true) (fun k => ?_) (Ev.now _)
          rw [spec_IsValidFact.l0, if_neg (by omega)]
        | succ d ih =>
          intro i hi
          rw [drop_get v i (by omega), List.all_cons]
          refine Ev.step (f := fun k => if vv v[i] = true then spec_IsValidFact.l0 k ((i + 1 : Nat) : Int) r v else some false) (fun k => ?_) ?_
          · rw [spec_IsValidFact.l0, if_pos (by omega), if_pos (by omega), rd_get v i (by omega), specIsValidValue_f _ (gv _ (List.getElem_mem (by omega))), Option.bind_some, w64_succ (by omega)]
          · cases h : vv v[i] with
            | true => simpa using ih (i + 1) (by omega)
            | false => simpa using Ev.now false
      refine Ev.step (f := fun k => spec_IsValidFact.l0 k 0 r v) (fun k => ?_) ?_
      · rw [spec_IsValidFact.j0, if_neg (by simp)]
      · have e := loop v.length 0 (by omega)
        simpa using e
  unfold validFact
  refine Ev.congr (fun k => by rw [spec_IsValidFact.f]) ?_
  refine Ev.bind (specValidRels_ev l (by omega)) ?_
  cases c1 : validRels l with
  | false => simpa using hf true
  | true =>
    simp only [if_true, Bool.true_and]
    refine Ev.congr (fun k => by rw [l1In_f, Option.bind_some, w64 (by omega) (by omega)]) ?_
    by_cases c2 : 0 ≤ r ∧ r < l.length
    · simp only [decide_eq_true (show 0 ≤ r ∧ r ≤ (l.length : Int) - 1 by omega), decide_eq_true c2, if_true, Bool.true_and, if_pos c2.1, if_pos c2.2]
      have e := hf ((v.length : Int) != (rd_T64 l r).f1)
      have e2 : (!((v.length : Int) != (rd_T64 l r).f1)) = decide ((v.length : Int) = (l.getD r.toNat z64).f1) := by
        rw [rdR1, Bool.eq_iff_iff]; simp
      rw [e2] at e
      exact e
    · simp only [decide_eq_false (show ¬ (0 ≤ r ∧ r ≤ (l.length : Int) - 1) by omega), decide_eq_false c2, Bool.false_eq_true, if_false, Bool.false_and]
      simpa using hf true

theorem containsBad_ev (v : List Int) (hv : v.length ≤ 1048576) : Ev (fun k => slices_ContainsFunc_int_int_cIsValidFact_1.f k v) (!v.all vv) := by
  have loop : ∀ (d i : Nat), i + d = v.length → ∃ r : Int, Ev (fun k => slices_IndexFunc_int_int_cIsValidFact_1.l0 k v v.length i) r ∧ decide (r ≥ 0) = !(v.drop i).all vv := by
    intro d
    induction d with
    | zero =>
      intro i hi
      have e1 : v.drop i = [] := by rw [List.drop_eq_nil_iff]; omega
      rw [e1]
      refine ⟨-1, Ev.step (f := fun _ => some (-1)) (fun k => ?_) (Ev.now _), by decide⟩
      rw [slices_IndexFunc_int_int_cIsValidFact_1.l0, if_neg (by omega)]
    | succ d ih =>
      intro i hi
      rw [drop_get v i (by omega), List.all_cons]
      have hstep : ∀ k, slices_IndexFunc_int_int_cIsValidFact_1.l0 (k + 1) v v.length i = if (!vv v[i]) = true then some (i : Int) else slices_IndexFunc_int_int_cIsValidFact_1.l0 k v v.length ((i + 1 : Nat) : Int) := fun k => by
        rw [slices_IndexFunc_int_int_cIsValidFact_1.l0, if_pos (by omega), if_pos (by omega), if_pos (by omega), rd_get v i (by omega), impl_IsValidFact_1.f, implIsValidValue_f, Option.bind_some, Option.bind_some, w64_succ (by omega)]
      cases h : vv v[i] with
      | true =>
        obtain ⟨r, er, hr⟩ := ih (i + 1) (by omega)
        refine ⟨r, Ev.step (f := fun k => slices_IndexFunc_int_int_cIsValidFact_1.l0 k v v.length ((i + 1 : Nat) : Int)) (fun k => by rw [hstep, h]; rfl) er, by rw [hr]; simp⟩
      | false =>
        exact ⟨i, Ev.step (f := fun _ => some (i : Int)) (fun k => by rw [hstep, h]; rfl) (Ev.now _), by simp⟩
  obtain ⟨r, er, hr⟩ := loop v.length 0 (by omega)
  rw [List.drop_zero] at hr
  rw [← hr]
  refine Ev.congr (fun k => by rw [slices_ContainsFunc_int_int_cIsValidFact_1.f, slices_IndexFunc_int_int_cIsValidFact_1.f]) ?_
  exact Ev.bind er (Ev.now _)
theorem implValidFact_ev (l : List IRel) (r : Int) (v : List Int) (hl : l.length ≤ 1048576) (hv : v.length ≤ 1048576) : Ev (fun k => impl_IsValidFact.f k l r v) (validFact l r v) := by
  unfold validFact
  refine Ev.congr (fun k => by rw [impl_IsValidFact.f]) ?_
  refine Ev.bind (implValidRels_ev l (by omega)) ?_
  cases c1 : validRels l with
  | false => simpa using Ev.now false
  | true =>
    simp only [if_true, Bool.true_and]
    refine Ev.congr (fun k => by rw [within_f, Option.bind_some, w64 (by omega) (by omega)]) ?_
    by_cases c2 : 0 ≤ r ∧ r < l.length
    · simp only [decide_eq_true (show 0 ≤ r ∧ r ≤ (l.length : Int) - 1 by omega), decide_eq_true c2, if_true, Bool.true_and, if_pos c2.1, if_pos c2.2]
      by_cases c3 : (v.length : Int) = (rd_T64 l r).f1
      · have c3' : (v.length : Int) = (l.getD r.toNat z64).f1 := c3
        simp only [c3, if_true]
        rw [← c3, decide_eq_true c3', Bool.true_and]
        refine Ev.bind (containsBad_ev v hv) ?_
        rw [Bool.not_not]
        exact Ev.now _
      · have c3' : ¬ (v.length : Int) = (l.getD r.toNat z64).f1 := c3
        simp only [c3, if_false]
        rw [decide_eq_false c3', Bool.false_and]
        exact Ev.now _
    · simp only [decide_eq_false (show ¬ (0 ≤ r ∧ r ≤ (l.length : Int) - 1) by omega), decide_eq_false c2, Bool.false_eq_true, if_false, Bool.false_and]
      exact Ev.now _

theorem FnExactIsValidFact (l0 : List S63) (a1_0 : Int) (l1_1 : List Int) (g0 : (GL (fun x : S63 => GP GS (GP GI GB) (x.f0, x.f1, x.f2))) l0) (g1_0 : GI a1_0) (g1_1 : (GL GI) l1_1) : ∃ k, laws_FnExactIsValidFact.f k l0 a1_0 l1_1 = some true := by
  obtain ⟨r, e, h⟩ := szRelationS_ev l0 g0.1 (fun x hx => (g0.2 x hx).1) 1048576 (by omega) (by omega)
  refine Ev.rounds (r := true) (Ev.congr (fun k => by rw [laws_FnExactIsValidFact.f]) (Ev.bind e ?_))
  rcases h with h | h
  · simp only [h, if_true]; exact Ev.now _
  · simp only [show ¬ r < 0 by omega, if_false]
    obtain ⟨r2, e2, h2⟩ := szFact_f a1_0 l1_1 g1_1.1 r (by omega) (by omega)
    refine Ev.congr (fun k => by rw [e2, Option.bind_some]) ?_
    rcases h2 with h2 | h2
    · simp only [h2, if_true]; exact Ev.now _
    · simp only [show ¬ r2 < 0 by omega, if_false]
      have hm : (l0.map toRel).length ≤ 1048576 := by simp; omega
      refine Ev.bind (toRelationS_ev _ (by omega)) (Ev.bind (toFact_ev _ _ (by omega)) (Ev.bind (specValidFact_ev (l0.map toRel) a1_0 l1_1 hm (by omega) g1_1.2) (Ev.bind (toRelationS_ev _ (by omega)) (Ev.bind (toFact_ev _ _ (by omega)) (Ev.bind (implValidFact_ev (l0.map toRel) a1_0 l1_1 hm (by omega)) ?_)))))
      simp only [bne_self_eq_false, Bool.false_eq_true, if_false]
      refine Ev.bind (toRelationS_ev _ (by omega)) (Ev.bind (eqRelationS_ev _ (by omega)) ?_)
      simp only [if_true]
      refine Ev.bind (toFact_ev _ _ (by omega)) (Ev.bind (eqFact_ev a1_0 l1_1 (by omega)) ?_)
      simp only [if_true]
      exact Ev.now _

end Go.Proofs.Ytaimpokajhkgnaa.Pure
