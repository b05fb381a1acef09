/- NullValue of the program and of the reference agree, for every int. No condition. -/
import Derived.Test.YtbmkfaejleleiaaPFnExactNullValuex1

namespace Go.Proofs.Ytbmkfaejleleiaa.Pure
open Go.RowKit Go.Proofs.Ytbmkfaejleleiaa.PFnExactNullValue Go.Proofs.YtbmkfaejleleiaaW.PrintWords Go.Proofs.YtbmkfaejleleiaaW.PrintLast Go.Proofs.YtbmkfaejleleiaaW.PrintMore
set_option linter.unusedVariables false
set_option linter.unusedSimpArgs false

theorem FnExactNullValue : laws_FnExactNullValue.Pure := by
  intro a0 _
  unfold laws_FnExactNullValue.f spec_NullValue.f impl_NullValue.f
  simp

end Go.Proofs.Ytbmkfaejleleiaa.Pure
