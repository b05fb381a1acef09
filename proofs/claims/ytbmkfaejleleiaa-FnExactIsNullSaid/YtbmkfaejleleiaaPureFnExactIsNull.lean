/- IsNull of the program and of the reference agree, for every int. No condition. -/
import Derived.Test.YtbmkfaejleleiaaPFnExactIsNullx1

namespace Go.Proofs.Ytbmkfaejleleiaa.Pure
open Go.RowKit Go.Proofs.Ytbmkfaejleleiaa.PFnExactIsNull Go.Proofs.YtbmkfaejleleiaaW.PrintWords Go.Proofs.YtbmkfaejleleiaaW.PrintLast Go.Proofs.YtbmkfaejleleiaaW.PrintMore
set_option linter.unusedVariables false
set_option linter.unusedSimpArgs false

theorem FnExactIsNull : laws_FnExactIsNull.Pure := by
  intro a0 _
  unfold laws_FnExactIsNull.f spec_IsNull.f impl_IsNull.f
  simp

end Go.Proofs.Ytbmkfaejleleiaa.Pure
