/- FormatFact of the program and of the reference agree, for every list of relations and every fact (past the law's own size bound it answers true itself). -/
import Derived.Test.YtjphbdnfbkfgiaaDoorPFnExactFormatFactx1
import Derived.Test.YtjphbdnfbkfgiaaDoorPFnExactFormatFactx2
import Derived.Test.YtjphbdnfbkfgiaaDoorPFnExactFormatFactx3
import Derived.Test.YtjphbdnfbkfgiaaDoorPFnExactFormatFactx4
import Derived.Test.YtjphbdnfbkfgiaaDoorPFnExactFormatFactx5
import Derived.Test.YtjphbdnfbkfgiaaDoorPFnExactFormatFactx6
import Derived.Test.YtjphbdnfbkfgiaaDoorPFnExactFormatFactx7
import Derived.Test.YtjphbdnfbkfgiaaDoorPFnExactFormatFactx8
import Derived.Test.YtjphbdnfbkfgiaaDoorPFnExactFormatFactx9
import Derived.Test.YtjphbdnfbkfgiaaDoorPFnExactFormatFactx10
import Derived.Test.YtjphbdnfbkfgiaaDoorPFnExactFormatFactx11
import Derived.Test.YtjphbdnfbkfgiaaDoorOpens
import Derived.Test.YtjphbdnfbkfgiaaDoorPlain
namespace Go.Proofs.YtjphbdnfbkfgiaaDoor.Pure
open Go.RowKit Go.Proofs.YtjphbdnfbkfgiaaDoor.PFnExactFormatFact Go.Proofs.YtjphbdnfbkfgiaaDoorW.PrintWords Go.Proofs.YtjphbdnfbkfgiaaDoorW.PrintLast Go.Proofs.YtjphbdnfbkfgiaaDoorW.PrintMore Go.Proofs.YtjphbdnfbkfgiaaDoor.Opens Go.Proofs.YtjphbdnfbkfgiaaDoor.Plain
set_option linter.unusedVariables false
set_option linter.unusedSimpArgs false

theorem l1In_f (a b c : Int) : spec_l1In.f a b c = some (decide (b ≤ a ∧ a ≤ c)) := by
  unfold spec_l1In.f
  by_cases h : b ≤ a <;> simp [h]

theorem within_f (a b c : Int) : impl_within.f a b c = some (decide (b ≤ a ∧ a ≤ c)) := by
  unfold impl_within.f
  by_cases h : b ≤ a <;> simp [h]

abbrev LRel := S78
abbrev IRel := S80
def toRel (x : LRel) : IRel := ⟨x.f0, x.f1, x.f2⟩
theorem szRelationS_ev (l : List LRel) (hl : l.length ≤ 9223372036854775807) (g : ∀ x ∈ l, x.f0.size ≤ 9223372036854775807) (a : Int) (h0 : 0 ≤ a) (h1 : a ≤ 1048576) :
    ∃ r, Ev (fun k => laws_szRelationS.f k l a) r ∧ (r < 0 ∨ 0 ≤ r ∧ r + l.length ≤ a) := by
  have loop : ∀ (d i : Nat) (x : Int), i + d = l.length → 0 ≤ x → x ≤ 1048576 → ∃ r, Ev (fun k => laws_szRelationS.l0 k l x i) r ∧ (r < 0 ∨ 0 ≤ r ∧ r ≤ x) := by
    intro d
    induction d with
    | zero =>
      intro i x hi hx hx1
      exact ⟨x, Ev.step (f := fun _ => some x) (fun k => by rw [laws_szRelationS.l0, if_neg (by omega)]) (Ev.now _), .inr ⟨hx, Int.le_refl _⟩⟩
    | succ d ih =>
      intro i x hi hx hx1
      have hz := g l[i] (List.getElem_mem (by omega))
      have e : rd_T78 l (i : Int) = l[i] := getD_get l _ i (by omega)
      have hs : laws_szRelation.f l[i].f0 l[i].f1 l[i].f2 x = some (if x - (l[i].f0.size : Int) < 0 then -1 else x - (l[i].f0.size : Int)) := by
        unfold laws_szRelation.f
        rw [w64 (by omega) (by omega)]
        split <;> rfl
      by_cases c : x - (l[i].f0.size : Int) < 0
      · refine ⟨-1, Ev.step (f := fun _ => some (-1)) (fun k => ?_) (Ev.now _), .inl (by omega)⟩
        rw [laws_szRelationS.l0, if_pos (by omega), if_pos (by omega), e, hs, if_pos c, Option.bind_some, if_pos (by omega)]
      · obtain ⟨r, er, hr⟩ := ih (i + 1) (x - (l[i].f0.size : Int)) (by omega) (by omega) (by omega)
        refine ⟨r, Ev.step (f := fun k => laws_szRelationS.l0 k l (x - (l[i].f0.size : Int)) ((i + 1 : Nat) : Int)) (fun k => ?_) er, ?_⟩
        · rw [laws_szRelationS.l0, if_pos (by omega), if_pos (by omega), e, hs, if_neg c, Option.bind_some, if_neg c, w64_succ (by omega)]
        · omega
  by_cases c : a - (l.length : Int) < 0
  · refine ⟨-1, Ev.congr (f := fun _ => some (-1)) (fun k => ?_) (Ev.now _), .inl (by omega)⟩
    rw [laws_szRelationS.f, w64 (by omega) (by omega), if_pos c]
  · obtain ⟨r, er, hr⟩ := loop l.length 0 (a - l.length) (by omega) (by omega) (by omega)
    refine ⟨r, Ev.congr (fun k => ?_) er, by omega⟩
    rw [laws_szRelationS.f, w64 (by omega) (by omega), if_neg c]; rfl
theorem toRelationS_ev (l : List LRel) (hl : l.length ≤ 1048576) : Ev (fun k => laws_toRelationS.f k l) (l.map toRel) := by
  have loop : ∀ (d i : Nat), i + d = l.length → Ev (fun k => laws_toRelationS.l0 k l ((l.take i).map toRel ++ List.replicate (l.length - i) z80) i) (l.map toRel) := by
    intro d
    induction d with
    | zero =>
      intro i hi
      refine Ev.step (f := fun _ => some (l.map toRel)) (fun k => ?_) (Ev.now _)
      rw [laws_toRelationS.l0, if_neg (by omega)]
      simp [show l.length - i = 0 by omega, List.take_of_length_le (show l.length ≤ i by omega)]
    | succ d ih =>
      intro i hi
      have e : rd_T78 l (i : Int) = l[i] := getD_get l _ i (by omega)
      refine Ev.step (f := fun k => laws_toRelationS.l0 k l ((l.take (i + 1)).map toRel ++ List.replicate (l.length - (i + 1)) z80) ((i + 1 : Nat) : Int)) (fun k => ?_) (ih (i + 1) (by omega))
      rw [laws_toRelationS.l0, if_pos (by omega), if_pos (by omega), e, laws_toRelation.f, Option.bind_some, if_pos (by rw [fill_len _ _ _ _ (by omega)]; omega), Int.toNat_natCast, w64_succ (by omega)]
      have e2 := fill_step toRel l z80 i (by omega)
      rw [← e2]
      rfl
  refine Ev.congr (f := fun k => laws_toRelationS.l0 k l (List.replicate l.length z80) 0) (fun k => ?_) ?_
  · rw [laws_toRelationS.f, if_pos (by omega), if_pos (by omega)]; rfl
  · have e := loop l.length 0 (by omega)
    simpa using e
theorem eqRelationS_ev (l : List IRel) (hl : l.length ≤ 140737488355328) : Ev (fun k => laws_eqRelationS.f k l l) true := by
  have loop : ∀ (d i : Nat), i + d = l.length → Ev (fun k => laws_eqRelationS.l0 k l l i) true := by
    intro d
    induction d with
    | zero =>
      intro i hi
      refine Ev.step (f := fun _ => some true) (fun k => ?_) (Ev.now _)
      rw [laws_eqRelationS.l0, if_neg (by omega)]
    | succ d ih =>
      intro i hi
      refine Ev.step (f := fun k => laws_eqRelationS.l0 k l l ((i + 1 : Nat) : Int)) (fun k => ?_) (ih (i + 1) (by omega))
      rw [laws_eqRelationS.l0, if_pos (by omega), if_pos (by omega), if_pos (by omega), laws_eqRelation.f, if_pos rfl, if_pos rfl, bne_self_eq_false, if_neg (by simp), Option.bind_some, if_pos rfl, w64_succ (by omega)]
  refine Ev.congr (f := fun k => laws_eqRelationS.l0 k l l 0) (fun k => ?_) (loop l.length 0 (by omega))
  rw [laws_eqRelationS.f, if_pos rfl]

theorem szIntS_f (l : List Int) (hl : l.length ≤ 9223372036854775807) (a : Int) (h0 : 0 ≤ a) (h1 : a ≤ 1048576) :
    ∃ r, laws_szIntS.f l a = some r ∧ (r < 0 ∨ 0 ≤ r ∧ r + l.length ≤ a) := by
  unfold laws_szIntS.f
  rw [w64 (by omega) (by omega)]
  by_cases c : a - (l.length : Int) < 0
  · exact ⟨-1, by rw [if_pos c], .inl (by omega)⟩
  · exact ⟨a - l.length, by rw [if_neg c], .inr (by omega)⟩

theorem toIntS_ev (l : List Int) (hl : l.length ≤ 1048576) : Ev (fun k => laws_toIntS.f k l) l := by
  have loop : ∀ (d i : Nat), i + d = l.length → Ev (fun k => laws_toIntS.l0 k l ((l.take i).map id ++ List.replicate (l.length - i) 0) i) l := by
    intro d
    induction d with
    | zero =>
      intro i hi
      refine Ev.step (f := fun _ => some l) (fun k => ?_) (Ev.now _)
      rw [laws_toIntS.l0, if_neg (by omega)]
      simp [show l.length - i = 0 by omega, List.take_of_length_le (show l.length ≤ i by omega)]
    | succ d ih =>
      intro i hi
      refine Ev.step (f := fun k => laws_toIntS.l0 k l ((l.take (i + 1)).map id ++ List.replicate (l.length - (i + 1)) 0) ((i + 1 : Nat) : Int)) (fun k => ?_) (ih (i + 1) (by omega))
      rw [laws_toIntS.l0, if_pos (by omega), if_pos (by omega), if_pos (by rw [fill_len _ _ _ _ (by omega)]; omega), rd_get l i (by omega), Int.toNat_natCast, w64_succ (by omega)]
      have e := fill_step id l 0 i (by omega)
      rw [id_eq] at e
      rw [e]
  refine Ev.congr (f := fun k => laws_toIntS.l0 k l (List.replicate l.length 0) 0) (fun k => ?_) ?_
  · rw [laws_toIntS.f, if_pos (by omega), if_pos (by omega)]; rfl
  · have e := loop l.length 0 (by omega)
    simpa using e

theorem eqIntS_ev (l : List Int) (hl : l.length ≤ 140737488355328) : Ev (fun k => laws_eqIntS.f k l l) true := by
  have loop : ∀ (d i : Nat), i + d = l.length → Ev (fun k => laws_eqIntS.l0 k l l i) true := by
    intro d
    induction d with
    | zero =>
      intro i hi
      refine Ev.step (f := fun _ => some true) (fun k => ?_) (Ev.now _)
      rw [laws_eqIntS.l0, if_neg (by omega)]
    | succ d ih =>
      intro i hi
      refine Ev.step (f := fun k => laws_eqIntS.l0 k l l ((i + 1 : Nat) : Int)) (fun k => ?_) (ih (i + 1) (by omega))
      rw [laws_eqIntS.l0, if_pos (by omega), if_pos (by omega), if_pos (by omega), if_pos rfl, w64_succ (by omega)]
  refine Ev.congr (f := fun k => laws_eqIntS.l0 k l l 0) (fun k => ?_) (loop l.length 0 (by omega))
  rw [laws_eqIntS.f, if_pos rfl]

theorem szFact_f (r : Int) (v : List Int) (hv : v.length ≤ 9223372036854775807) (a : Int) (h0 : 0 ≤ a) (h1 : a ≤ 1048576) :
    ∃ s, laws_szFact.f r v a = some s ∧ (s < 0 ∨ 0 ≤ s ∧ s + v.length ≤ a) := by
  obtain ⟨s, e, h⟩ := szIntS_f v hv a h0 h1
  unfold laws_szFact.f
  rw [e, Option.bind_some]
  rcases h with h | h
  · exact ⟨-1, by rw [if_pos h], .inl (by omega)⟩
  · exact ⟨s, by rw [if_neg (by omega)], .inr h⟩
theorem toFact_ev (r : Int) (v : List Int) (hv : v.length ≤ 1048576) : Ev (fun k => laws_toFact.f k r v) (r, v) := by
  refine Ev.congr (fun k => by rw [laws_toFact.f]) ?_
  exact Ev.bind (toIntS_ev v hv) (Ev.now _)
theorem eqFact_ev (r : Int) (v : List Int) (hv : v.length ≤ 140737488355328) : Ev (fun k => laws_eqFact.f k r v r v) true := by
  refine Ev.congr (fun k => by rw [laws_eqFact.f, if_pos rfl]) ?_
  refine Ev.bind (eqIntS_ev v hv) ?_
  simp only [if_true]
  exact Ev.now _

/-- A relation is valid: a letter from a to z, an arity from 1 to 3. -/
def okRel3 (a : ByteArray) (b : Int) (_ : Bool) : Bool := decide (a.size = 1 ∧ 97 ≤ bt a 0 ∧ bt a 0 ≤ 122 ∧ 1 ≤ b ∧ b ≤ 3)
theorem specValidRel_f (a : ByteArray) (b : Int) (c : Bool) : spec_IsValidRelation.f a b c = some (okRel3 a b c) := by
  unfold spec_IsValidRelation.f okRel3
  by_cases h1 : a.size = 1
  · rw [if_pos (by omega), if_pos (by omega), l1In_f, Option.bind_some]
    by_cases h2 : bt a 0 ≥ 97
    · by_cases h3 : bt a 0 ≤ 122
      · rw [if_pos h2, if_pos h3]; exact congrArg some (decide_eq_decide.2 (by omega))
      · rw [if_pos h2, if_neg h3]; exact congrArg some (decide_eq_false (by omega)).symm
    · rw [if_neg h2]; exact congrArg some (decide_eq_false (by omega)).symm
  · rw [if_neg (by omega)]; exact congrArg some (decide_eq_false (by omega)).symm

def okRel (x : IRel) : Bool := okRel3 x.f0 x.f1 x.f2
theorem specValidRel_x (x : IRel) : spec_IsValidRelation.f x.f0 x.f1 x.f2 = some (okRel x) := specValidRel_f _ _ _
def okRels (l : List IRel) (i : Nat) : Nat → Bool
  | 0 => decide (l.length ≤ 6)
  | d + 1 => okRel (l.getD i z80) && (decide (i = 0) || Op.bytesLess (l.getD (i - 1) z80).f0.toList (l.getD i z80).f0.toList) && okRels l (i + 1) d
def validRels (l : List IRel) : Bool := okRels l 0 l.length
theorem rdR (l : List IRel) (i : Nat) : rd_T80 l (i : Int) = l.getD i z80 := by unfold rd_T80; rw [Int.toNat_natCast]
theorem specValidRels_ev (l : List IRel) (hl : l.length ≤ 140737488355328) : Ev (fun k => spec_AreValidRelations.f k l) (validRels l) := by
  have loop : ∀ (d i : Nat), i + d = l.length → Ev (fun k => spec_AreValidRelations.l0 k l i) (okRels l i d) := by
    intro d
    induction d with
    | zero =>
      intro i hi
      refine Ev.step (f := fun _ => some (okRels l i 0)) (fun k => ?_) (Ev.now _)
      rw [spec_AreValidRelations.l0, if_neg (by omega), okRels]; congr 1; simp; omega
    | succ d ih =>
      intro i hi
      have e := ih (i + 1) (by omega)
      refine Ev.step (f := fun k => if (okRel (l.getD i z80) && (decide (i = 0) || Op.bytesLess (l.getD (i - 1) z80).f0.toList (l.getD i z80).f0.toList)) = true then spec_AreValidRelations.l0 k l ((i + 1 : Nat) : Int) else some false) (fun k => ?_) ?_
      · rw [spec_AreValidRelations.l0, if_pos (by omega), if_pos (by omega), specValidRel_x, rdR, Option.bind_some, w64_succ (by omega)]
        by_cases c1 : okRel (l.getD i z80) = true
        · rw [if_pos c1]
          by_cases c2 : i = 0
          · rw [if_neg (by omega), if_pos]; rw [c1]; simp [c2]
          · rw [if_pos (by omega), w64 (by omega) (by omega), if_pos (by omega), if_pos (by omega), show ((i : Int) - 1) = ((i - 1 : Nat) : Int) by omega, rdR, c1, decide_eq_false c2, Bool.false_or, Bool.true_and]
        · rw [if_neg c1, if_neg]
          intro h
          simp only [Bool.and_eq_true] at h
          exact c1 h.1
      · rw [okRels]
        cases h : (okRel (l.getD i z80) && (decide (i = 0) || Op.bytesLess (l.getD (i - 1) z80).f0.toList (l.getD i z80).f0.toList)) with
        | true => simpa using e
        | false => simpa using Ev.now false
  exact Ev.congr (fun k => by rw [spec_AreValidRelations.f]; rfl) (loop l.length 0 (by omega))

theorem one_byte (s : ByteArray) (h : s.size = 1) : ∃ c : UInt8, s.toList = [c] ∧ bt s 0 = (c.toNat : Int) := by
  have hl : s.data.toList.length = 1 := by rw [data_length, h]
  match e : s.data.toList, hl with
  | [c], _ =>
    refine ⟨c, by rw [toList_data, e], ?_⟩
    have hb := rd_bytesOf s 0
    rw [← hb]
    unfold bytesOf rd
    rw [e]
    rfl
theorem less_one (c d : UInt8) : Op.bytesLess [c] [d] = decide ((c.toNat : Int) < d.toNat) := by
  simp only [Op.bytesLess, Bool.and_false, Bool.or_false]
  rw [Bool.eq_iff_iff]
  simp only [decide_eq_true_eq, UInt8.lt_iff_toNat_lt]
  omega
theorem implValidRel_f (a : ByteArray) (b : Int) (c : Bool) : impl_IsValidRelation.f a b c = some (okRel3 a b c) := by
  unfold impl_IsValidRelation.f okRel3
  by_cases h1 : a.size = 1
  · obtain ⟨x, hx, hb⟩ := one_byte a h1
    rw [if_pos (by omega), hx, less_one, less_one, within_f, Option.bind_some, hb]
    have e97 : ((97 : UInt8).toNat : Int) = 97 := rfl
    have e122 : ((122 : UInt8).toNat : Int) = 122 := rfl
    rw [e97, e122]
    by_cases h2 : ((x.toNat : Nat) : Int) < 97
    · rw [if_pos (by simpa using h2)]; exact congrArg some (decide_eq_false (by omega)).symm
    · rw [if_neg (by simpa using h2)]
      by_cases h3 : (122 : Int) < (x.toNat : Int)
      · rw [if_pos (by simpa using h3)]; exact congrArg some (decide_eq_false (by omega)).symm
      · rw [if_neg (by simpa using h3)]; exact congrArg some (decide_eq_decide.2 (by omega))
  · rw [if_neg (by omega)]; exact congrArg some (decide_eq_false (by omega)).symm

theorem implValidRel_x (x : IRel) : impl_IsValidRelation.f x.f0 x.f1 x.f2 = some (okRel x) := implValidRel_f _ _ _
theorem implValidRels_ev (l : List IRel) (hl : l.length ≤ 140737488355328) : Ev (fun k => impl_AreValidRelations.f k l) (validRels l) := by
  have loop : ∀ (d i : Nat), i + d = l.length → Ev (fun k => impl_AreValidRelations.l0 k l l l.length i) (okRels l i d) := by
    intro d
    induction d with
    | zero =>
      intro i hi
      refine Ev.step (f := fun _ => some (okRels l i 0)) (fun k => ?_) (Ev.now _)
      rw [impl_AreValidRelations.l0, if_neg (by omega), okRels]; congr 1; simp; omega
    | succ d ih =>
      intro i hi
      have e := ih (i + 1) (by omega)
      refine Ev.step (f := fun k => if (okRel (l.getD i z80) && (decide (i = 0) || Op.bytesLess (l.getD (i - 1) z80).f0.toList (l.getD i z80).f0.toList)) = true then impl_AreValidRelations.l0 k l l l.length ((i + 1 : Nat) : Int) else some false) (fun k => ?_) ?_
      · rw [impl_AreValidRelations.l0, if_pos (by omega), if_pos (by omega), if_pos (by omega), implValidRel_x, rdR, Option.bind_some, w64_succ (by omega)]
        by_cases c1 : okRel (l.getD i z80) = true
        · rw [if_pos c1]
          by_cases c2 : i = 0
          · rw [if_neg (by omega), if_pos]; rw [c1]; simp [c2]
          · rw [if_pos (by omega), w64 (by omega) (by omega), if_pos (by omega), if_pos (by omega), show ((i : Int) - 1) = ((i - 1 : Nat) : Int) by omega, rdR, c1, decide_eq_false c2, Bool.false_or, Bool.true_and]
        · rw [if_neg c1, if_neg]
          intro h
          simp only [Bool.and_eq_true] at h
          exact c1 h.1
      · rw [okRels]
        cases h : (okRel (l.getD i z80) && (decide (i = 0) || Op.bytesLess (l.getD (i - 1) z80).f0.toList (l.getD i z80).f0.toList)) with
        | true => simpa using e
        | false => simpa using Ev.now false
  exact Ev.congr (fun k => by rw [impl_AreValidRelations.f]; rfl) (loop l.length 0 (by omega))

def vv (x : Int) : Bool := decide (-40 ≤ x ∧ x ≤ 9)

theorem specNullNumber_f (x : Int) (h : GI x) : spec_NullNumber.f x = some (if -40 ≤ x ∧ x ≤ -1 then (-1 - x, true) else (0, false)) := by
  unfold GI at h
  unfold spec_NullNumber.f
  by_cases c : x ≥ 0
  · rw [if_pos c, if_neg (by omega)]
  · have e : wrap64 ((-1) - x) = -1 - x := w64 (by omega) (by omega)
    rw [if_neg c, e, l1In_f]
    simp only [Option.bind_some, decide_eq_true_eq]
    by_cases c2 : -40 ≤ x ∧ x ≤ -1
    · rw [if_pos c2, if_pos (by omega)]
    · rw [if_neg c2, if_neg (by omega)]

theorem specIsValidValue_f (x : Int) (h : GI x) : spec_IsValidValue.f x = some (vv x) := by
  unfold spec_IsValidValue.f vv
  rw [specNullNumber_f x h, Option.bind_some, l1In_f]
  by_cases c2 : -40 ≤ x ∧ x ≤ -1
  · rw [if_pos c2, if_pos rfl]; exact congrArg some (decide_eq_true (by omega)).symm
  · rw [if_neg c2, if_neg (by simp), Option.bind_some]; exact congrArg some (decide_eq_decide.2 (by omega))

theorem implIsValidValue_f (x : Int) : impl_IsValidValue.f x = some (vv x) := by
  unfold impl_IsValidValue.f vv
  rw [within_f, Option.bind_some]

theorem rdR1 (l : List IRel) (i : Int) : rd_T80 l i = l.getD i.toNat z80 := rfl
/-- A fact is valid over valid relations. -/
def validFact (l : List IRel) (r : Int) (v : List Int) : Bool :=
  validRels l && (decide (0 ≤ r ∧ r < l.length) && (decide ((v.length : Int) = (l.getD r.toNat z80).f1) && v.all vv))
theorem specValidFact_ev (l : List IRel) (r : Int) (v : List Int) (hl : l.length ≤ 1048576) (hv : v.length ≤ 1048576) (gv : ∀ x ∈ v, GI x) : Ev (fun k => spec_IsValidFact.f k l r v) (validFact l r v) := by
  have hf : ∀ b : Bool, Ev (fun k => spec_IsValidFact.j0 k b r v) (!b && v.all vv) := by
    intro b
    cases b with
    | true =>
      refine Ev.step (f := fun _ => some false) (fun k => ?_) (Ev.now _)
      rw [spec_IsValidFact.j0, if_pos rfl]
    | false =>
      have loop : ∀ (d i : Nat), i + d = v.length → Ev (fun k => spec_IsValidFact.l0 k i r v) ((v.drop i).all vv) := by
        intro d
        induction d with
        | zero =>
          intro i hi
          have e1 : v.drop i = [] := by rw [List.drop_eq_nil_iff]; omega
          rw [e1]
          refine Ev.step (f := fun _ => some true) (fun k => ?_) (Ev.now _)
          rw [spec_IsValidFact.l0, if_neg (by omega)]
        | succ d ih =>
          intro i hi
          rw [drop_get v i (by omega), List.all_cons]
          refine Ev.step (f := fun k => if vv v[i] = true then spec_IsValidFact.l0 k ((i + 1 : Nat) : Int) r v else some false) (fun k => ?_) ?_
          · rw [spec_IsValidFact.l0, if_pos (by omega), if_pos (by omega), rd_get v i (by omega), specIsValidValue_f _ (gv _ (List.getElem_mem (by omega))), Option.bind_some, w64_succ (by omega)]
          · cases h : vv v[i] with
            | true => simpa using ih (i + 1) (by omega)
            | false => simpa using Ev.now false
      refine Ev.step (f := fun k => spec_IsValidFact.l0 k 0 r v) (fun k => ?_) ?_
      · rw [spec_IsValidFact.j0, if_neg (by simp)]
      · have e := loop v.length 0 (by omega)
        simpa using e
  unfold validFact
  refine Ev.congr (fun k => by rw [spec_IsValidFact.f]) ?_
  refine Ev.bind (specValidRels_ev l (by omega)) ?_
  cases c1 : validRels l with
  | false => simpa using hf true
  | true =>
    simp only [if_true, Bool.true_and]
    refine Ev.congr (fun k => by rw [l1In_f, Option.bind_some, w64 (by omega) (by omega)]) ?_
    by_cases c2 : 0 ≤ r ∧ r < l.length
    · simp only [decide_eq_true (show 0 ≤ r ∧ r ≤ (l.length : Int) - 1 by omega), decide_eq_true c2, if_true, Bool.true_and, if_pos c2.1, if_pos c2.2]
      have e := hf ((v.length : Int) != (rd_T80 l r).f1)
      have e2 : (!((v.length : Int) != (rd_T80 l r).f1)) = decide ((v.length : Int) = (l.getD r.toNat z80).f1) := by
        rw [rdR1, Bool.eq_iff_iff]; simp
      rw [e2] at e
      exact e
    · simp only [decide_eq_false (show ¬ (0 ≤ r ∧ r ≤ (l.length : Int) - 1) by omega), decide_eq_false c2, Bool.false_eq_true, if_false, Bool.false_and]
      simpa using hf true

theorem containsBad_ev (v : List Int) (hv : v.length ≤ 1048576) : Ev (fun k => slices_ContainsFunc_int_int_cIsValidFact_1.f k v) (!v.all vv) := by
  have loop : ∀ (d i : Nat), i + d = v.length → ∃ r : Int, Ev (fun k => slices_IndexFunc_int_int_cIsValidFact_1.l0 k v v.length i) r ∧ decide (r ≥ 0) = !(v.drop i).all vv := by
    intro d
    induction d with
    | zero =>
      intro i hi
      have e1 : v.drop i = [] := by rw [List.drop_eq_nil_iff]; omega
      rw [e1]
      refine ⟨-1, Ev.step (f := fun _ => some (-1)) (fun k => ?_) (Ev.now _), by decide⟩
      rw [slices_IndexFunc_int_int_cIsValidFact_1.l0, if_neg (by omega)]
    | succ d ih =>
      intro i hi
      rw [drop_get v i (by omega), List.all_cons]
      have hstep : ∀ k, slices_IndexFunc_int_int_cIsValidFact_1.l0 (k + 1) v v.length i = if (!vv v[i]) = true then some (i : Int) else slices_IndexFunc_int_int_cIsValidFact_1.l0 k v v.length ((i + 1 : Nat) : Int) := fun k => by
        rw [slices_IndexFunc_int_int_cIsValidFact_1.l0, if_pos (by omega), if_pos (by omega), if_pos (by omega), rd_get v i (by omega), impl_IsValidFact_1.f, implIsValidValue_f, Option.bind_some, Option.bind_some, w64_succ (by omega)]
      cases h : vv v[i] with
      | true =>
        obtain ⟨r, er, hr⟩ := ih (i + 1) (by omega)
        refine ⟨r, Ev.step (f := fun k => slices_IndexFunc_int_int_cIsValidFact_1.l0 k v v.length ((i + 1 : Nat) : Int)) (fun k => by rw [hstep, h]; rfl) er, by rw [hr]; simp⟩
      | false =>
        exact ⟨i, Ev.step (f := fun _ => some (i : Int)) (fun k => by rw [hstep, h]; rfl) (Ev.now _), by simp⟩
  obtain ⟨r, er, hr⟩ := loop v.length 0 (by omega)
  rw [List.drop_zero] at hr
  rw [← hr]
  refine Ev.congr (fun k => by rw [slices_ContainsFunc_int_int_cIsValidFact_1.f, slices_IndexFunc_int_int_cIsValidFact_1.f]) ?_
  exact Ev.bind er (Ev.now _)
theorem implValidFact_ev (l : List IRel) (r : Int) (v : List Int) (hl : l.length ≤ 1048576) (hv : v.length ≤ 1048576) : Ev (fun k => impl_IsValidFact.f k l r v) (validFact l r v) := by
  unfold validFact
  refine Ev.congr (fun k => by rw [impl_IsValidFact.f]) ?_
  refine Ev.bind (implValidRels_ev l (by omega)) ?_
  cases c1 : validRels l with
  | false => simpa using Ev.now false
  | true =>
    simp only [if_true, Bool.true_and]
    refine Ev.congr (fun k => by rw [within_f, Option.bind_some, w64 (by omega) (by omega)]) ?_
    by_cases c2 : 0 ≤ r ∧ r < l.length
    · simp only [decide_eq_true (show 0 ≤ r ∧ r ≤ (l.length : Int) - 1 by omega), decide_eq_true c2, if_true, Bool.true_and, if_pos c2.1, if_pos c2.2]
      by_cases c3 : (v.length : Int) = (rd_T80 l r).f1
      · have c3' : (v.length : Int) = (l.getD r.toNat z80).f1 := c3
        simp only [c3, if_true]
        rw [← c3, decide_eq_true c3', Bool.true_and]
        refine Ev.bind (containsBad_ev v hv) ?_
        rw [Bool.not_not]
        exact Ev.now _
      · have c3' : ¬ (v.length : Int) = (l.getD r.toNat z80).f1 := c3
        simp only [c3, if_false]
        rw [decide_eq_false c3', Bool.false_and]
        exact Ev.now _
    · simp only [decide_eq_false (show ¬ (0 ≤ r ∧ r ≤ (l.length : Int) - 1) by omega), decide_eq_false c2, Bool.false_eq_true, if_false, Bool.false_and]
      exact Ev.now _

/-- The digits of n, ahead of what stands already. -/
theorem digits_step (u : Nat) (h : 10 ≤ u) : Lib.decDigits u = Lib.decDigits (u / 10) ++ [UInt8.ofNat (48 + u % 10)] := by rw [Lib.decDigits, dif_neg (by omega)]
theorem digits_one (u : Nat) (h : u < 10) : Lib.decDigits u = [UInt8.ofNat (48 + u)] := by rw [Lib.decDigits, dif_pos h]
def strB (l : List UInt8) : ByteArray := ⟨l.toArray⟩
theorem strB_size (l : List UInt8) : (strB l).size = l.length := by simp [strB, ByteArray.size]
theorem strB_append (a b : List UInt8) : strB a ++ strB b = strB (a ++ b) := by
  apply ByteArray.ext
  simp [strB, ByteArray.data_append]
theorem str_one (d : Nat) : strOfNums [((48 + d : Nat) : Int) % 256] = strB [UInt8.ofNat (48 + d)] := by
  have e1 : (((48 + d : Nat) : Int) % 256).toNat = (48 + d) % 256 := by omega
  have e2 : UInt8.ofNat ((48 + d) % 256) = UInt8.ofNat (48 + d) := by apply UInt8.toNat_inj.1; simp
  unfold strOfNums strB
  simp only [List.map_cons, List.map_nil, e1, e2]
theorem digits_len (u : Nat) : (Lib.decDigits u).length ≤ u + 1 := by
  induction u using Nat.strongRecOn with
  | _ u ih =>
    by_cases h : u < 10
    · rw [digits_one u h]; simp
    · rw [digits_step u (by omega), List.length_append]
      have := ih (u / 10) (by omega)
      simp; omega
theorem digits_len20 (u : Nat) (h : u < 100000000000000000000) : (Lib.decDigits u).length ≤ 20 := by
  have key : ∀ (m u : Nat), u < 10 ^ (m + 1) → (Lib.decDigits u).length ≤ m + 1 := by
    intro m
    induction m with
    | zero => intro u h; rw [digits_one u (by omega)]; simp
    | succ m ih =>
      intro u h
      by_cases c : u < 10
      · rw [digits_one u c]; simp
      · rw [digits_step u (by omega), List.length_append]
        have := ih (u / 10) (by rw [Nat.pow_succ] at h; omega)
        simp; omega
  exact key 19 u (by simpa using h)
theorem digits_len9 (u : Nat) (h : u < 1000000000) : (Lib.decDigits u).length ≤ 9 := by
  have key : ∀ (m u : Nat), u < 10 ^ (m + 1) → (Lib.decDigits u).length ≤ m + 1 := by
    intro m
    induction m with
    | zero => intro u h; rw [digits_one u (by omega)]; simp
    | succ m ih =>
      intro u h
      by_cases c : u < 10
      · rw [digits_one u c]; simp
      · rw [digits_step u (by omega), List.length_append]
        have := ih (u / 10) (by rw [Nat.pow_succ] at h; omega)
        simp; omega
  exact key 8 u (by simpa using h)
theorem l0_digits (u : Nat) : ∀ (x : Int) (out : List UInt8) (neg : Bool), x.natAbs = u → 0 < u → -9223372036854775808 ≤ x → x ≤ 9223372036854775807 → out.length + u + 1 ≤ 9223372036854775807 * 2 → out.length ≤ 30 →
    ∀ (hl : out.length + (Lib.decDigits u).length ≤ 30), Ev (fun k => spec_FormatInt.l0 k x (strB out) neg) (if neg = true then strB (45 :: (Lib.decDigits u ++ out)) else strB (Lib.decDigits u ++ out)) := by
  induction u using Nat.strongRecOn with
  | _ u ih =>
    intro x out neg hu h0 h1 h2 _ _ hl
    have hne : x ≠ 0 := by omega
    have hd : ∃ d : Nat, d = u % 10 ∧ (Int.tmod x 10).natAbs = d ∧ (Int.tdiv x 10).natAbs = u / 10 := by
      refine ⟨u % 10, rfl, ?_, ?_⟩
      · rw [Int.natAbs_tmod, hu]; rfl
      · rw [Int.natAbs_tdiv, hu]; rfl
    obtain ⟨d, hd1, hd2, hd3⟩ := hd
    have hd9 : d ≤ 9 := by omega
    -- what the round does
    have hround : ∀ k, spec_FormatInt.l0 (k + 1) x (strB out) neg = spec_FormatInt.l0 k (Int.tdiv x 10) (strB (UInt8.ofNat (48 + d) :: out)) neg := by
      intro k
      have hsz : (strB [UInt8.ofNat (48 + d)]).size + (strB out).size ≤ 9223372036854775807 := by
        rw [strB_size, strB_size]; simp; omega
      have hw : wrap64 (Int.tdiv x 10) = Int.tdiv x 10 := w64 (by omega) (by omega)
      rw [spec_FormatInt.l0, if_neg hne]
      by_cases c : Int.tmod x 10 < 0
      · have e1 : wrap64 (48 + wrap64 (-(Int.tmod x 10))) = ((48 + d : Nat) : Int) := by rw [w64 (x := -(Int.tmod x 10)) (by omega) (by omega), w64 (by omega) (by omega)]; omega
        rw [if_pos c, Option.bind_some, e1, str_one, if_pos hsz, hw, strB_append]
        rfl
      · have e1 : wrap64 (48 + Int.tmod x 10) = ((48 + d : Nat) : Int) := by rw [w64 (by omega) (by omega)]; omega
        rw [if_neg c, Option.bind_some, e1, str_one, if_pos hsz, hw, strB_append]
        rfl
    refine Ev.step hround ?_
    by_cases c : u < 10
    · have hz : Int.tdiv x 10 = 0 := by omega
      rw [hz, digits_one u c]
      have hdu : d = u := by omega
      rw [← hdu]
      refine Ev.step (f := fun _ => some (if neg = true then strB (45 :: ([UInt8.ofNat (48 + d)] ++ out)) else strB ([UInt8.ofNat (48 + d)] ++ out))) (fun k => ?_) (Ev.now _)
      rw [spec_FormatInt.l0, if_pos rfl]
      cases neg with
      | true =>
        rw [if_pos rfl, if_pos (by rw [strB_size]; simp; omega), if_pos rfl]
        congr 1
      | false => rfl
    · rw [digits_step u (by omega)] at hl ⊢
      rw [List.length_append] at hl
      have e := ih (u / 10) (by omega) (Int.tdiv x 10) (UInt8.ofNat (48 + d) :: out) neg hd3 (by omega) (by omega) (by omega) (by simp; omega) (by simp at hl ⊢; omega) (by simp at hl ⊢; omega)
      rw [hd1] at e ⊢
      simpa using e
theorem specFormat_ev (x : Int) (h : GI x) : Ev (fun k => spec_FormatInt.f k x) (strB (Lib.itoa x)) := by
  unfold GI at h
  by_cases c : x = 0
  · subst c
    refine Ev.congr (fun k => by rw [spec_FormatInt.f, if_pos rfl]) ?_
    have e : strB (Lib.itoa 0) = (⟨#[48]⟩ : ByteArray) := by unfold Lib.itoa; rw [if_neg (by omega), digits_one _ (by decide)]; rfl
    rw [e]; exact Ev.now _
  · have hl := digits_len20 x.natAbs (by omega)
    have e := l0_digits x.natAbs x [] (decide (x < 0)) rfl (by omega) (by omega) (by omega) (by simp; omega) (by simp) (by simp; omega)
    refine Ev.congr (fun k => by rw [spec_FormatInt.f, if_neg c]) ?_
    unfold Lib.itoa
    rw [List.append_nil, show strB [] = (⟨#[]⟩ : ByteArray) from rfl] at e
    by_cases cn : x < 0
    · rw [if_pos cn]
      simpa [cn] using e
    · rw [if_neg cn]
      have : x.toNat = x.natAbs := by omega
      rw [this]
      simpa [cn] using e
theorem implFormat_f (x : Int) (h : GI x) : impl_FormatInt.f x = some (strB (Lib.itoa x)) := by
  unfold GI at h
  rw [impl_FormatInt.f, strconv_Itoa_61.f, if_pos (by omega)]
  rfl

theorem itoa_len (n : Int) (h : GI n) : (Lib.itoa n).length ≤ 21 := by
  unfold GI at h
  unfold Lib.itoa
  split
  · have := digits_len20 n.natAbs (by omega)
    simp; omega
  · have := digits_len20 n.toNat (by omega)
    omega

/-- What FormatValue answers. -/
def fv (x : Int) : ByteArray := if -40 ≤ x ∧ x ≤ -1 then strB (110 :: Lib.itoa (-1 - x)) else if 0 ≤ x ∧ x ≤ 9 then strB (Lib.itoa x) else strB []
theorem specFormatValue_ev (x : Int) (h : GI x) : Ev (fun k => spec_FormatValue.f k x) (fv x) := by
  refine Ev.congr (fun k => by rw [spec_FormatValue.f, specNullNumber_f x h, Option.bind_some]) ?_
  unfold fv
  by_cases c : -40 ≤ x ∧ x ≤ -1
  · simp only [c, and_self, if_true]
    have hg : GI (-1 - x) := by unfold GI; omega
    refine Ev.bind (specFormat_ev (-1 - x) hg) ?_
    have hl := itoa_len _ hg
    refine Ev.congr (fun k => by rw [if_pos (by rw [strB_size]; omega), show (⟨#[110]⟩ : ByteArray) = strB [110] from rfl, strB_append]; rfl) (Ev.now (strB (110 :: Lib.itoa (-1 - x))))
  · simp only [c, if_false, Bool.false_eq_true]
    refine Ev.congr (fun k => by rw [l1In_f, Option.bind_some]) ?_
    by_cases c2 : 0 ≤ x ∧ x ≤ 9
    · simp only [decide_eq_true c2, if_true, if_pos c2]
      exact Ev.bind (specFormat_ev x h) (Ev.now _)
    · simp only [decide_eq_false c2, if_neg c2, Bool.false_eq_true, if_false]
      exact Ev.now _
theorem implFormatValue_f (x : Int) (h : GI x) : impl_FormatValue.f x = some (fv x) := by
  rw [impl_FormatValue.f, implIsValidValue_f, Option.bind_some, impl_IsNull.f, Option.bind_some]
  unfold fv vv
  by_cases c : -40 ≤ x ∧ x ≤ 9
  · rw [if_pos (decide_eq_true c)]
    by_cases c2 : x < 0
    · have hg : GI (-1 - x) := by unfold GI; omega
      have hl := itoa_len _ hg
      rw [if_pos (decide_eq_true c2), if_pos (by omega), w64 (by omega) (by omega), implFormat_f _ hg, Option.bind_some, if_pos (by rw [strB_size]; omega), show (⟨#[110]⟩ : ByteArray) = strB [110] from rfl, strB_append]
      rfl
    · rw [if_neg (by simpa using c2), if_neg (by omega), if_pos (by omega), implFormat_f x h, Option.bind_some]
  · rw [if_neg (by simpa using c), if_neg (by omega), if_neg (by omega)]
    rfl

theorem joinTail_snoc (sep : List UInt8) (r : List (List UInt8)) (y : List UInt8) : Lib.joinTail sep (r ++ [y]) = Lib.joinTail sep r ++ (sep ++ y) := by
  unfold Lib.joinTail
  simp
/-- One more word: behind a separator, but for the first. -/
theorem join_snoc (sep : List UInt8) (xs : List (List UInt8)) (y : List UInt8) : Lib.join (xs ++ [y]) sep = if xs.length = 0 then y else Lib.join xs sep ++ sep ++ y := by
  cases xs with
  | nil => rw [List.nil_append, Lib.join_one]; rfl
  | cons x r => rw [List.cons_append, Lib.join_cons, Lib.join_cons, joinTail_snoc, if_neg (by simp), List.append_assoc, List.append_assoc]
theorem join_len (sep : List UInt8) (B : Nat) : ∀ (n : Nat) (xs : List (List UInt8)), xs.length = n → (∀ x ∈ xs, x.length ≤ B) → (Lib.join xs sep).length ≤ n * (B + sep.length) := by
  intro n
  induction n with
  | zero =>
    intro xs h _
    obtain rfl : xs = [] := List.eq_nil_of_length_eq_zero h
    simp [Lib.join_nil]
  | succ n ih =>
    intro xs h hb
    rcases List.eq_nil_or_concat xs with rfl | ⟨ys, y, rfl⟩
    · simp at h
    · rw [List.concat_eq_append] at *
      have h1 := ih ys (by simp at h; omega) (fun x hx => hb x (List.mem_append_left _ hx))
      have h2 := hb y (List.mem_append_right _ (by simp))
      rw [join_snoc, Nat.succ_mul]
      split
      · omega
      · rw [List.length_append, List.length_append]; omega
theorem strB_self (s : ByteArray) : strB s.data.toList = s := by apply ByteArray.ext; simp [strB]
theorem strB_data (l : List UInt8) : (strB l).data.toList = l := by simp [strB]
theorem strB_toList (l : List UInt8) : (strB l).toList = l := by rw [toList_data]; simp [strB]

theorem okRels_all (l : List IRel) (d : Nat) : ∀ i, okRels l i d = true → l.length ≤ 6 ∧ ∀ j, i ≤ j → j < i + d → okRel (l.getD j z80) = true := by
  induction d with
  | zero => intro i h; rw [okRels, decide_eq_true_eq] at h; exact ⟨h, fun j h1 h2 => by omega⟩
  | succ d ih =>
    intro i h
    rw [okRels] at h
    simp only [Bool.and_eq_true] at h
    obtain ⟨a, b⟩ := ih (i + 1) h.2
    refine ⟨a, fun j h1 h2 => ?_⟩
    by_cases c : j = i
    · subst c; exact h.1.1
    · exact b j (by omega) (by omega)
theorem okRel_props (x : IRel) (h : okRel x = true) : x.f0.size = 1 ∧ 1 ≤ x.f1 ∧ x.f1 ≤ 3 := by
  unfold okRel okRel3 at h
  simp only [decide_eq_true_eq] at h
  exact ⟨h.1, h.2.2.2.1, h.2.2.2.2⟩

def fvL (x : Int) : List UInt8 := (fv x).data.toList
theorem fv_fvL (x : Int) : fv x = strB (fvL x) := (strB_self _).symm
theorem fvL_len (x : Int) (h : GI x) : (fvL x).length ≤ 22 := by
  unfold fvL fv
  by_cases c : -40 ≤ x ∧ x ≤ -1
  · have := itoa_len (-1 - x) (by unfold GI; omega)
    rw [if_pos c, strB_data, List.length_cons]; omega
  · rw [if_neg c]
    by_cases c2 : 0 ≤ x ∧ x ≤ 9
    · have := itoa_len x h
      rw [if_pos c2, strB_data]; omega
    · rw [if_neg c2, strB_data]; simp

def wordsF (v : List Int) : List (List UInt8) := v.map fvL
def nameF (l : List IRel) (r : Int) : List UInt8 := (l.getD r.toNat z80).f0.data.toList
def fmtFact (l : List IRel) (r : Int) (v : List Int) : ByteArray := if validFact l r v = true then strB (nameF l r ++ [40] ++ Lib.join (wordsF v) [44] ++ [41]) else strB []
theorem validFact_props (l : List IRel) (r : Int) (v : List Int) (h : validFact l r v = true) : (0 ≤ r ∧ r < l.length) ∧ v.length ≤ 3 ∧ (nameF l r).length = 1 := by
  unfold validFact at h
  simp only [Bool.and_eq_true, decide_eq_true_eq] at h
  obtain ⟨h1, h2, h3, _⟩ := h
  obtain ⟨_, hok⟩ := okRels_all l l.length 0 h1
  obtain ⟨a, b, c⟩ := okRel_props _ (hok r.toNat (by omega) (by omega))
  refine ⟨h2, by omega, ?_⟩
  unfold nameF
  rw [Array.length_toList]
  exact a
theorem wordsF_bound (v : List Int) (gv : ∀ x ∈ v, GI x) : ∀ x ∈ wordsF v, x.length ≤ 22 := by
  intro x hx
  obtain ⟨y, hy, rfl⟩ := List.mem_map.1 hx
  exact fvL_len y (gv y hy)
theorem nameF_str (l : List IRel) (r : Int) : (rd_T80 l r).f0 = strB (nameF l r) := (strB_self _).symm
theorem specFmtFact_ev (l : List IRel) (r : Int) (v : List Int) (hl : l.length ≤ 1048576) (hv : v.length ≤ 1048576) (gv : ∀ x ∈ v, GI x) : Ev (fun k => spec_FormatFact.f k l r v) (fmtFact l r v) := by
  refine Ev.congr (fun k => by rw [spec_FormatFact.f]) (Ev.bind (specValidFact_ev l r v hl hv gv) ?_)
  unfold fmtFact
  cases cv : validFact l r v with
  | false => simp only [Bool.false_eq_true, if_false]; exact Ev.now _
  | true =>
    simp only [if_true]
    obtain ⟨hr, h3, hnm⟩ := validFact_props l r v cv
    have e40 : (⟨#[40]⟩ : ByteArray) = strB [40] := rfl
    have e41 : (⟨#[41]⟩ : ByteArray) = strB [41] := rfl
    have e44 : (⟨#[44]⟩ : ByteArray) = strB [44] := rfl
    have hwl : (wordsF v).length = v.length := by unfold wordsF; simp
    have hb := wordsF_bound v gv
    have hjl := join_len [44] 22 v.length (wordsF v) hwl hb
    simp only [List.length_cons, List.length_nil] at hjl
    rw [nameF_str]
    generalize nameF l r = nm at hnm ⊢
    have loop : ∀ (d i : Nat), i + d = v.length → Ev (fun k => spec_FormatFact.l0 k (strB (nm ++ [40] ++ Lib.join ((wordsF v).take i) [44])) i r v) (strB (nm ++ [40] ++ Lib.join (wordsF v) [44] ++ [41])) := by
      intro d
      induction d with
      | zero =>
        intro i hi
        refine Ev.step (f := fun _ => some (strB (nm ++ [40] ++ Lib.join (wordsF v) [44] ++ [41]))) (fun k => ?_) (Ev.now _)
        rw [spec_FormatFact.l0, if_neg (by omega), List.take_of_length_le (by omega)]
        simp only [e41, strB_append, strB_size]
        rw [if_pos (by simp; omega)]
      | succ d ih =>
        intro i hi
        have h2 : i < v.length := by omega
        have gvi := gv v[i] (List.getElem_mem h2)
        have l2 := fvL_len _ gvi
        have s2 := specFormatValue_ev _ gvi
        rw [fv_fvL] at s2
        have ihx := ih (i + 1) (by omega)
        have hlen : ((wordsF v).take i).length = i := by rw [List.length_take]; omega
        have eL : (wordsF v).take (i + 1) = (wordsF v).take i ++ [fvL v[i]] := by
          unfold wordsF; rw [List.take_succ_eq_append_getElem (by simp; omega), List.getElem_map]
        rw [eL, join_snoc, hlen] at ihx
        have hz : i = 0 → Lib.join ((wordsF v).take i) [44] = [] := by rintro rfl; rfl
        have hlj := join_len [44] 22 i ((wordsF v).take i) hlen (fun x hx => hb x (List.mem_of_mem_take hx))
        simp only [List.length_cons, List.length_nil] at hlj
        generalize Lib.join ((wordsF v).take i) [44] = out at hlj ihx hz ⊢
        by_cases c0 : i = 0
        · have ho := hz c0
          subst ho
          rw [if_pos c0] at ihx
          refine Ev.step (fun k => by rw [spec_FormatFact.l0, if_pos (by omega), if_neg (by omega), if_pos (by omega), rd_get v i h2, w64_succ (by omega)]) (Ev.bind s2 ?_)
          simp only [strB_append, strB_size, List.append_nil]
          refine Ev.congr (fun k => by rw [if_pos (by simp; omega)]) ihx
        · rw [if_neg c0] at ihx
          simp only [← List.append_assoc] at ihx
          refine Ev.step (fun k => by rw [spec_FormatFact.l0, if_pos (by omega), if_pos (by omega), if_pos (by rw [strB_size]; simp; omega), if_pos (by omega), rd_get v i h2, w64_succ (by omega)]) (Ev.bind s2 ?_)
          simp only [e44, strB_append, strB_size]
          refine Ev.congr (fun k => by rw [if_pos (by simp; omega)]) ihx
    have e := loop v.length 0 (by omega)
    simp only [List.take_zero, Lib.join_nil, List.append_nil] at e
    refine Ev.congr (fun k => ?_) e
    rw [if_pos hr.1, if_pos hr.2, if_pos (by rw [strB_size]; omega), e40, strB_append]
    rfl
theorem implFmtFact_ev (l : List IRel) (r : Int) (v : List Int) (hl : l.length ≤ 1048576) (hv : v.length ≤ 1048576) (gv : ∀ x ∈ v, GI x) : Ev (fun k => impl_FormatFact.f k l r v) (fmtFact l r v) := by
  refine Ev.congr (fun k => by rw [impl_FormatFact.f]) (Ev.bind (implValidFact_ev l r v hl hv) ?_)
  unfold fmtFact
  cases cv : validFact l r v with
  | false => simp only [Bool.false_eq_true, if_false]; exact Ev.now _
  | true =>
    simp only [if_true]
    obtain ⟨hr, h3, hnm⟩ := validFact_props l r v cv
    have e40 : (⟨#[40]⟩ : ByteArray) = strB [40] := rfl
    have e41 : (⟨#[41]⟩ : ByteArray) = strB [41] := rfl
    have hwl : (wordsF v).length = v.length := by unfold wordsF; simp
    have hb := wordsF_bound v gv
    have hjl := join_len [44] 22 v.length (wordsF v) hwl hb
    simp only [List.length_cons, List.length_nil] at hjl
    have loop : ∀ (d i : Nat), i + d = v.length → Ev (fun k => impl_FormatFact.l0 k l (((wordsF v).take i).map strB) v v.length i r v) (strB (nameF l r ++ [40] ++ Lib.join (wordsF v) [44] ++ [41])) := by
      intro d
      induction d with
      | zero =>
        intro i hi
        refine Ev.step (f := fun _ => some (strB (nameF l r ++ [40] ++ Lib.join (wordsF v) [44] ++ [41]))) (fun k => ?_) (Ev.now _)
        have em : (((wordsF v).take i).map strB).map (fun x : ByteArray => x.data.toList) = wordsF v := by
          rw [List.take_of_length_le (by omega), List.map_map]
          conv => rhs; rw [← List.map_id (wordsF v)]
          exact List.map_congr_left (fun x _ => strB_data x)
        have es : (⟨#[44]⟩ : ByteArray).data.toList = [44] := rfl
        rw [impl_FormatFact.l0, if_neg (by omega), if_pos hr.1, if_pos hr.2, nameF_str, if_pos (by rw [strB_size]; omega), strings_Join.f, em, es, if_pos ⟨by simp; omega, by omega⟩, Option.bind_some]
        have ej : (⟨(Lib.join (wordsF v) [44]).toArray⟩ : ByteArray) = strB (Lib.join (wordsF v) [44]) := rfl
        simp only [ej, e40, e41, strB_append, strB_size]
        rw [if_pos (by simp; omega), if_pos (by simp; omega)]
      | succ d ih =>
        intro i hi
        have h2 : i < v.length := by omega
        have gvi := gv v[i] (List.getElem_mem h2)
        have s2 := implFormatValue_f _ gvi
        rw [fv_fvL] at s2
        have ihx := ih (i + 1) (by omega)
        have eL : (wordsF v).take (i + 1) = (wordsF v).take i ++ [fvL v[i]] := by
          unfold wordsF; rw [List.take_succ_eq_append_getElem (by simp; omega), List.getElem_map]
        rw [eL, List.map_append] at ihx
        refine Ev.step (fun k => ?_) ihx
        rw [impl_FormatFact.l0, if_pos (by omega), if_pos (by omega), if_pos (by omega), rd_get v i h2, s2, Option.bind_some, if_pos (by simp; omega), w64_succ (by omega)]
        rfl
    exact Ev.congr (fun k => rfl) (loop v.length 0 (by omega))

theorem FnExactFormatFact (l0 : List S78) (a1_0 : Int) (l1_1 : List Int) (g0 : (GL (fun x : S78 => GP GS (GP GI GB) (x.f0, x.f1, x.f2))) l0) (g1_0 : GI a1_0) (g1_1 : (GL GI) l1_1) : ∃ k, laws_FnExactFormatFact.f k l0 a1_0 l1_1 = some true := by
  obtain ⟨r, e, h⟩ := szRelationS_ev l0 g0.1 (fun x hx => (g0.2 x hx).1) 1048576 (by omega) (by omega)
  refine Ev.rounds (r := true) (Ev.congr (fun k => by rw [laws_FnExactFormatFact.f]) (Ev.bind e ?_))
  rcases h with h | h
  · simp only [h, if_true]; exact Ev.now _
  · simp only [show ¬ r < 0 by omega, if_false]
    obtain ⟨r2, e2, h2⟩ := szFact_f a1_0 l1_1 g1_1.1 r (by omega) (by omega)
    refine Ev.congr (fun k => by rw [e2, Option.bind_some]) ?_
    rcases h2 with h2 | h2
    · simp only [h2, if_true]; exact Ev.now _
    · simp only [show ¬ r2 < 0 by omega, if_false]
      have hm : (l0.map toRel).length ≤ 1048576 := by simp; omega
      have t := toRelationS_ev l0 (by omega)
      have t2 := toFact_ev a1_0 l1_1 (by omega)
      refine Ev.bind t (Ev.bind t2 (Ev.bind (specFmtFact_ev (l0.map toRel) a1_0 l1_1 hm (by omega) g1_1.2) (Ev.bind t (Ev.bind t2 (Ev.bind (implFmtFact_ev (l0.map toRel) a1_0 l1_1 hm (by omega) g1_1.2) ?_)))))
      simp only [if_true]
      refine Ev.bind t (Ev.bind (eqRelationS_ev _ (by omega)) ?_)
      simp only [if_true]
      refine Ev.bind t2 (Ev.bind (eqFact_ev a1_0 l1_1 (by omega)) ?_)
      simp only [if_true]
      exact Ev.now _

end Go.Proofs.YtjphbdnfbkfgiaaDoor.Pure
