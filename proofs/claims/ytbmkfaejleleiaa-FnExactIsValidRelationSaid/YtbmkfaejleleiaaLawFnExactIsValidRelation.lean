/- The row of the law FnExactIsValidRelation: for every input that can be read the call answers true and leaves its arguments alone; out of the pure statement and the printed contract. No condition. -/
import Derived.Test.YtbmkfaejleleiaaRows
import Derived.Test.YtbmkfaejleleiaaPFnExactIsValidRelationx1
import Derived.Test.YtbmkfaejleleiaaPureFnExactIsValidRelation
import Derived.Test.YtbmkfaejleleiaaOpens
import Derived.WalkKit
import Derived.ProofKit
import Derived.OpenShut
import Derived.ShutString
import Derived.ChangeOld
import Derived.Below
import Derived.SizedLaws
import Derived.Carry
namespace Go.Proofs.Ytbmkfaejleleiaa.fnExactIsValidRelation
open Go.ChangeShapes Go.WideShapes Go.ChangeAt Go.RowKit Go.Proofs.Ytbmkfaejleleiaa.PFnExactIsValidRelation Go.Proofs.Ytbmkfaejleleiaa.Opens Go.Proofs.YtbmkfaejleleiaaW.PrintWords
set_option linter.unusedVariables false
theorem own : ownKnob Try.prog.godebug = none := by kernel_rfl
theorem laidOut : laidOutB Try.prog = true := by kernel_rfl
theorem op0 : Opens Try.prog (Kd.pair Kd.string (Kd.pair (Kd.int .i64) Kd.bool)) 32 (GP GS (GP GI GB)) := (opens_pair3 Try.underlying32 (by kernel_rfl) (by kernel_rfl) (opens_string Try.underlying9 (by kernel_rfl)) (opens_int Try.underlying3 (by kernel_rfl)) (opens_bool Try.underlying4 (by kernel_rfl)))
set_option maxRecDepth 100000 in
theorem lifted (os : Os) (started : os.Started) (H : Type) (enc : TypeId × Value → H) :
    ReturnsInHanded {} Try.checked os 10 .any (Rows.fnExactIsValidRelationSpec.pre6 enc Try.prog Try.f10 Rows.fnExactIsValidRelationRow.domain false) (Rows.fnExactIsValidRelationSpec.post enc Try.prog Try.f10 false true false false) := by
  refine returnsInHanded_of_change_sized (C := Try.checked) own started (by kernel_rfl) Try.func10
    (ChangeSpec.witness6 (enc := enc) (C := Try.checked) false ⟨#[], #[.agg #[.string ByteArray.empty, .int .i64 0, .bool false]], []⟩ 8 (by kernel_rfl) (by kernel_rfl) (by kernel_rfl) (by kernel_rfl)) ?_
  intro W base args ds gs before hval0 hW hcnd hsz0 _
  have hval : ∀ (j : Nat) t v, Try.f10.params[j]? = some t → args[j]? = some v → Value.okWide Try.prog W .any base t v := hval0
  have hW' := hW
  obtain ⟨p, q, hA0, hV, rfl, hfz, hnd⟩ := hW
  have hA : DataW.TrodAll enc Try.prog W 0 (fun _ => true) true Try.f10.params.toList args.toList ds p := hA0
  rw [Try.params10] at hA hval
  obtain ⟨v0, vs0, d0, ds0, p0, q0, hargs, rfl, rfl, h0, r0⟩ := trodAll_cons hA
  obtain ⟨rfl, rfl, rfl⟩ := trodAll_nil r0
  obtain rfl : args = #[v0] := by cases args; simp_all
  obtain ⟨rfl, rfl⟩ := trodVars_none hV
  obtain ⟨cs0, rfl, _⟩ := okWide_struct Try.underlying32 (hval 0 32 v0 rfl rfl)
  have k0 := h0
  have lt0 : ∀ x ∈ p0, x.block < W.heap.size := by obtain ⟨m, hm⟩ := k0; exact DataW.trod_lt m _ _ _ hm
  obtain ⟨⟨a0_0, a0_1, a0_2⟩, K0, ⟨g0_0, g0_1, g0_2⟩⟩ := op0.at h0
  obtain ⟨_, _, e0, rfl, ⟨_, _, rfl, rfl, rfl⟩⟩ := K0
  obtain rfl : cs0 = #[.string a0_0, .int .i64 a0_1, .bool a0_2] := Array.toList_inj.1 e0
  clear hA0 hval0 hsz0
  have hp := Pure.FnExactIsValidRelation a0_0 a0_1 a0_2 g0_0 g0_1
  refine (laws_FnExactIsValidRelation.calls a0_0 a0_1 a0_2 W  hp).mono fun e W' ⟨he, bel0⟩ => ?_
  have bel : Below W.heap.size W W' := bel0
  subst he
  exact ⟨_, rfl, _, _, _, [], _, [], hW', trodAll_mk1 (shut_bool Try.underlying4 _), (trodAll_cons_mk (Below.trod laidOut (by kernel_rfl) (of_decide_eq_true (by kernel_rfl)) k0 bel lt0) trodAll_mk0), rfl, bel.frame _, fun h => by cases h⟩
theorem over : Rows.fnExactIsValidRelationRow.holds Try.pinned (OpenSpec.ofChange Rows.fnExactIsValidRelationSpec) :=
  OpenClaim.holds_of_wide 10 Try.f10 rfl rfl rfl rfl rfl rfl rfl ⟨rfl, rfl, rfl, rfl, rfl⟩ rfl rfl rfl rfl rfl (by kernel_rfl) Try.func10 (by kernel_rfl)
    (of_decide_eq_true (by kernel_rfl)) (by unfold Func.isWrapper; first | (rw [if_pos (by decide +kernel)]; kernel_rfl) | (rw [if_neg (by decide +kernel)]; exact ⟨rfl, rfl⟩))
    (fun os started H enc _ => lifted os started H enc)
theorem proved : Rows.FnExactIsValidRelationSaid := over
end Go.Proofs.Ytbmkfaejleleiaa.fnExactIsValidRelation
namespace Go.Proofs.Ytbmkfaejleleiaa
/-- The row, under a short name, for the claim. -/
theorem fnExactIsValidRelation_holds : Rows.FnExactIsValidRelationSaid := fnExactIsValidRelation.proved
end Go.Proofs.Ytbmkfaejleleiaa
