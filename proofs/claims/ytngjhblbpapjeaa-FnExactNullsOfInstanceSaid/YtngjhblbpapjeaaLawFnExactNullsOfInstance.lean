/- The row of the law FnExactNullsOfInstance: for every input that can be read the call answers true and leaves its arguments alone; out of the walk by hand. No condition. -/
import Derived.Test.YtngjhblbpapjeaaRows
import Derived.Test.YtngjhblbpapjeaaHQ1
import Derived.Test.YtngjhblbpapjeaaOpens
import Derived.WalkKit
import Derived.ProofKit
import Derived.OpenShut
import Derived.ShutString
import Derived.ChangeOld
import Derived.Below
import Derived.SizedLaws
import Derived.Carry
import Derived.ChangeMaps5
namespace Go.Proofs.Ytngjhblbpapjeaa.fnExactNullsOfInstance
open Go.ChangeMaps Go.ChangeShapes Go.WideShapes Go.ChangeAt Go.RowKit Go.Proofs.Ytngjhblbpapjeaa.Opens Go.Proofs.YtngjhblbpapjeaaW.PrintWords Go.Proofs.Ytngjhblbpapjeaa.H
set_option linter.unusedVariables false
theorem own : ownKnob Try.prog.godebug = none := by kernel_rfl
theorem laidOut : laidOutB Try.prog = true := by kernel_rfl
theorem op0 : Opens Try.prog (Kd.pair (Kd.slice 105 kRel) (Kd.slice 51 kFct)) 25 (GP (GL (GP GS (GP GI GB))) (GL (GP GI (GL GI)))) := (opens_pair2 Try.underlying25 (by kernel_rfl) (by kernel_rfl) (opens_slice Try.underlying22 (by kernel_rfl) (ByteArray.empty, (0 : Int), false) (opens_pair3 Try.underlying105 (by kernel_rfl) (by kernel_rfl) (opens_string Try.underlying9 (by kernel_rfl)) (opens_int Try.underlying3 (by kernel_rfl)) (opens_bool Try.underlying4 (by kernel_rfl)))) (opens_slice Try.underlying23 (by kernel_rfl) ((0 : Int), []) (opens_pair2 Try.underlying51 (by kernel_rfl) (by kernel_rfl) (opens_int Try.underlying3 (by kernel_rfl)) (opens_slice Try.underlying27 (by kernel_rfl) (0 : Int) (opens_int Try.underlying3 (by kernel_rfl))))))
set_option maxRecDepth 100000 in
theorem lifted (os : Os) (started : os.Started) (H : Type) (enc : TypeId × Value → H) :
    ReturnsInHanded {} Try.checked os 3 .any (Rows.fnExactNullsOfInstanceSpec.pre6 enc Try.prog Try.f3 Rows.fnExactNullsOfInstanceRow.domain false) (Rows.fnExactNullsOfInstanceSpec.post enc Try.prog Try.f3 false true false false) := by
  refine returnsInHanded_of_change_sized (C := Try.checked) own started (by kernel_rfl) Try.func3
    (ChangeSpec.witness6 (enc := enc) (C := Try.checked) false ⟨#[], #[.agg #[.slice none 0 0, .slice none 0 0]], []⟩ 8 (by kernel_rfl) (by kernel_rfl) (by kernel_rfl) (by kernel_rfl)) ?_
  intro W base args ds gs before hval0 hW hcnd hsz0 _
  have hval : ∀ (j : Nat) t v, Try.f3.params[j]? = some t → args[j]? = some v → Value.okWide Try.prog W .any base t v := hval0
  have hW' := hW
  obtain ⟨p, q, hA0, hV, rfl, hfz, hnd⟩ := hW
  have hA : DataW.TrodAll enc Try.prog W 0 (fun _ => true) true Try.f3.params.toList args.toList ds p := hA0
  rw [Try.params3] at hA hval
  obtain ⟨v0, vs0, d0, ds0, p0, q0, hargs, rfl, rfl, h0, r0⟩ := trodAll_cons hA
  obtain ⟨rfl, rfl, rfl⟩ := trodAll_nil r0
  obtain rfl : args = #[v0] := by cases args; simp_all
  obtain ⟨rfl, rfl⟩ := trodVars_none hV
  obtain ⟨cs0, rfl, _⟩ := okWide_struct Try.underlying25 (hval 0 25 v0 rfl rfl)
  have k0 := h0
  have lt0 : ∀ x ∈ p0, x.block < W.heap.size := by obtain ⟨m, hm⟩ := k0; exact DataW.trod_lt m _ _ _ hm
  obtain ⟨⟨l0_0, l0_1⟩, K0, ⟨g0_0, g0_1⟩⟩ := op0.at h0
  obtain ⟨_, _, e0, ⟨A0_0, c0_0, rfl, hc0_0, hr0_0⟩, ⟨A0_1, c0_1, rfl, hc0_1, hr0_1⟩⟩ := K0
  obtain rfl : cs0 = #[.slice A0_0 l0_0.length c0_0, .slice A0_1 l0_1.length c0_1] := Array.toList_inj.1 e0
  clear hA0 hval0 hsz0
  refine (FnExactNullsOfInstance_calls W A0_0 c0_0 A0_1 c0_1 l0_0 l0_1 ⟨hc0_0, hr0_0⟩ ⟨hc0_1, hr0_1, fun f hf => (g0_1.2 f hf).2.2⟩ (fun r hr => (g0_0.2 r hr).1)).mono fun e W' ⟨he, bel0⟩ => ?_
  have bel : Below W.heap.size W W' := bel0
  subst he
  exact ⟨_, rfl, _, _, _, [], _, [], hW', trodAll_mk1 (shut_bool Try.underlying4 _), (trodAll_cons_mk (Below.trod laidOut (by kernel_rfl) (of_decide_eq_true (by kernel_rfl)) k0 bel lt0) trodAll_mk0), rfl, bel.frame _, fun h => by cases h⟩
theorem over : Rows.fnExactNullsOfInstanceRow.holds Try.pinned (OpenSpec.ofChange Rows.fnExactNullsOfInstanceSpec) :=
  OpenClaim.holds_of_wide 3 Try.f3 rfl rfl rfl rfl rfl rfl rfl ⟨rfl, rfl, rfl, rfl, rfl⟩ rfl rfl rfl rfl rfl (by kernel_rfl) Try.func3 (by kernel_rfl)
    (of_decide_eq_true (by kernel_rfl)) (by unfold Func.isWrapper; first | (rw [if_pos (by decide +kernel)]; kernel_rfl) | (rw [if_neg (by decide +kernel)]; exact ⟨rfl, rfl⟩))
    (fun os started H enc _ => lifted os started H enc)
theorem proved : Rows.FnExactNullsOfInstanceSaid := over
end Go.Proofs.Ytngjhblbpapjeaa.fnExactNullsOfInstance
namespace Go.Proofs.Ytngjhblbpapjeaa
/-- The row, under a short name, for the claim. -/
theorem fnExactNullsOfInstance_holds : Rows.FnExactNullsOfInstanceSaid := fnExactNullsOfInstance.proved
end Go.Proofs.Ytngjhblbpapjeaa
