/- NullNumber of the program and of the reference agree, for every int. No condition. -/
import Derived.Test.YtbmkfaejleleiaaPFnExactNullNumberx1

namespace Go.Proofs.Ytbmkfaejleleiaa.Pure
open Go.RowKit Go.Proofs.Ytbmkfaejleleiaa.PFnExactNullNumber Go.Proofs.YtbmkfaejleleiaaW.PrintWords Go.Proofs.YtbmkfaejleleiaaW.PrintLast Go.Proofs.YtbmkfaejleleiaaW.PrintMore
set_option linter.unusedVariables false
set_option linter.unusedSimpArgs false

theorem FnExactNullNumber : laws_FnExactNullNumber.Pure := by
  intro a0 h
  simp [Lit.wf, IntKind.min, IntKind.max, IntKind.signed, IntKind.bits] at h
  unfold laws_FnExactNullNumber.f spec_NullNumber.f impl_NullNumber.f spec_l1In.f impl_within.f
  by_cases c : a0 ≥ 0
  · have e : wrap64 (-1 - a0) < 0 := by unfold wrap64; omega
    rw [if_pos c, if_neg (by omega)]
    simp
  · have e : wrap64 (-1 - a0) = -1 - a0 := by unfold wrap64; omega
    rw [if_neg c, e, if_pos (by omega)]
    by_cases c2 : -1 - a0 ≤ 39 <;> simp [c2]

end Go.Proofs.Ytbmkfaejleleiaa.Pure
