/- IsValidValue of the program and of the reference agree, for every int. No condition. -/
import Derived.Test.YtbmkfaejleleiaaPFnExactIsValidValuex1

namespace Go.Proofs.Ytbmkfaejleleiaa.Pure
open Go.RowKit Go.Proofs.Ytbmkfaejleleiaa.PFnExactIsValidValue Go.Proofs.YtbmkfaejleleiaaW.PrintWords Go.Proofs.YtbmkfaejleleiaaW.PrintLast Go.Proofs.YtbmkfaejleleiaaW.PrintMore
set_option linter.unusedVariables false
set_option linter.unusedSimpArgs false

theorem FnExactIsValidValue : laws_FnExactIsValidValue.Pure := by
  intro a0 h
  simp [Lit.wf, IntKind.min, IntKind.max, IntKind.signed, IntKind.bits] at h
  unfold laws_FnExactIsValidValue.f spec_IsValidValue.f spec_NullNumber.f impl_IsValidValue.f spec_l1In.f impl_within.f
  by_cases c : a0 ≥ 0
  · rw [if_pos c, if_pos (by omega : (-40 : Int) ≤ a0)]
    simp [c]
  · have e : wrap64 (-1 - a0) = -1 - a0 := by unfold wrap64; omega
    rw [if_neg c, e, if_pos (by omega)]
    by_cases c2 : -1 - a0 ≤ 39
    · have c3 : a0 ≤ 9 := by omega
      have c4 : (-40 : Int) ≤ a0 := by omega
      simp [c2, c3, c4]
    · have c4 : ¬ (-40 : Int) ≤ a0 := by omega
      simp [c2, c, c4]

end Go.Proofs.Ytbmkfaejleleiaa.Pure
