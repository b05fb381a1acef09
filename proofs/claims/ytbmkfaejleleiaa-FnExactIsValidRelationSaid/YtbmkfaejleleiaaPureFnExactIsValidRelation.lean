/- IsValidRelation of the program and of the reference agree, for every relation (a name longer than 2^20 bytes: the law itself answers true). -/
import Derived.Test.YtbmkfaejleleiaaPFnExactIsValidRelationx1
import Derived.Test.YtbmkfaejleleiaaOpens
import Derived.Test.YtbmkfaejleleiaaPlain
namespace Go.Proofs.Ytbmkfaejleleiaa.Pure
open Go.RowKit Go.Proofs.Ytbmkfaejleleiaa.PFnExactIsValidRelation Go.Proofs.YtbmkfaejleleiaaW.PrintWords Go.Proofs.YtbmkfaejleleiaaW.PrintLast Go.Proofs.YtbmkfaejleleiaaW.PrintMore Go.Proofs.Ytbmkfaejleleiaa.Opens Go.Proofs.Ytbmkfaejleleiaa.Plain
set_option linter.unusedVariables false
set_option linter.unusedSimpArgs false

theorem l1In_f (a b c : Int) : spec_l1In.f a b c = some (decide (b ≤ a ∧ a ≤ c)) := by
  unfold spec_l1In.f
  by_cases h : b ≤ a <;> simp [h]

theorem within_f (a b c : Int) : impl_within.f a b c = some (decide (b ≤ a ∧ a ≤ c)) := by
  unfold impl_within.f
  by_cases h : b ≤ a <;> simp [h]

/-- A relation is valid: a letter from a to z, an arity from 1 to 3. -/
def okRel3 (a : ByteArray) (b : Int) (_ : Bool) : Bool := decide (a.size = 1 ∧ 97 ≤ bt a 0 ∧ bt a 0 ≤ 122 ∧ 1 ≤ b ∧ b ≤ 3)
theorem specValidRel_f (a : ByteArray) (b : Int) (c : Bool) : spec_IsValidRelation.f a b c = some (okRel3 a b c) := by
  unfold spec_IsValidRelation.f okRel3
  by_cases h1 : a.size = 1
  · rw [if_pos (by omega), if_pos (by omega), l1In_f, Option.bind_some]
    by_cases h2 : bt a 0 ≥ 97
    · by_cases h3 : bt a 0 ≤ 122
      · rw [if_pos h2, if_pos h3]; exact congrArg some (decide_eq_decide.2 (by omega))
      · rw [if_pos h2, if_neg h3]; exact congrArg some (decide_eq_false (by omega)).symm
    · rw [if_neg h2]; exact congrArg some (decide_eq_false (by omega)).symm
  · rw [if_neg (by omega)]; exact congrArg some (decide_eq_false (by omega)).symm

theorem one_byte (s : ByteArray) (h : s.size = 1) : ∃ c : UInt8, s.toList = [c] ∧ bt s 0 = (c.toNat : Int) := by
  have hl : s.data.toList.length = 1 := by rw [data_length, h]
  match e : s.data.toList, hl with
  | [c], _ =>
    refine ⟨c, by rw [toList_data, e], ?_⟩
    have hb := rd_bytesOf s 0
    rw [← hb]
    unfold bytesOf rd
    rw [e]
    rfl
theorem less_one (c d : UInt8) : Op.bytesLess [c] [d] = decide ((c.toNat : Int) < d.toNat) := by
  simp only [Op.bytesLess, Bool.and_false, Bool.or_false]
  rw [Bool.eq_iff_iff]
  simp only [decide_eq_true_eq, UInt8.lt_iff_toNat_lt]
  omega
theorem implValidRel_f (a : ByteArray) (b : Int) (c : Bool) : impl_IsValidRelation.f a b c = some (okRel3 a b c) := by
  unfold impl_IsValidRelation.f okRel3
  by_cases h1 : a.size = 1
  · obtain ⟨x, hx, hb⟩ := one_byte a h1
    rw [if_pos (by omega), hx, less_one, less_one, within_f, Option.bind_some, hb]
    have e97 : ((97 : UInt8).toNat : Int) = 97 := rfl
    have e122 : ((122 : UInt8).toNat : Int) = 122 := rfl
    rw [e97, e122]
    by_cases h2 : ((x.toNat : Nat) : Int) < 97
    · rw [if_pos (by simpa using h2)]; exact congrArg some (decide_eq_false (by omega)).symm
    · rw [if_neg (by simpa using h2)]
      by_cases h3 : (122 : Int) < (x.toNat : Int)
      · rw [if_pos (by simpa using h3)]; exact congrArg some (decide_eq_false (by omega)).symm
      · rw [if_neg (by simpa using h3)]; exact congrArg some (decide_eq_decide.2 (by omega))
  · rw [if_neg (by omega)]; exact congrArg some (decide_eq_false (by omega)).symm

theorem FnExactIsValidRelation (a0_0 : ByteArray) (a0_1 : Int) (a0_2 : Bool) (g0_0 : GS a0_0) (g0_1 : GI a0_1) : laws_FnExactIsValidRelation.f a0_0 a0_1 a0_2 = some true := by
  unfold laws_FnExactIsValidRelation.f laws_szRelation.f laws_toRelation.f
  have hz : a0_0.size ≤ 9223372036854775807 := g0_0
  rw [w64 (by omega) (by omega)]
  by_cases c : (1048576 : Int) - (a0_0.size : Int) < 0
  · rw [if_pos c, Option.bind_some, if_pos (by omega)]
  · rw [if_neg c, Option.bind_some, if_neg c]
    simp only [Option.bind_some]
    rw [specValidRel_f, implValidRel_f]
    simp

end Go.Proofs.Ytbmkfaejleleiaa.Pure
