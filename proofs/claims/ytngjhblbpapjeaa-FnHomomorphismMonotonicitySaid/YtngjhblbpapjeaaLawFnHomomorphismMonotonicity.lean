/- The row of the law FnHomomorphismMonotonicity: for every input that can be read the call answers true and leaves its arguments alone; out of the pure statement and the printed contract. No condition. -/
import Derived.Test.YtngjhblbpapjeaaRows
import Derived.Test.YtngjhblbpapjeaaZFnHomomorphismMonotonicity7
import Derived.Test.YtngjhblbpapjeaaOpens
import Derived.WalkKit
import Derived.ProofKit
import Derived.OpenShut
import Derived.ShutString
import Derived.ChangeOld
import Derived.Below
import Derived.SizedLaws
import Derived.Carry
import Derived.ChangeMaps5
namespace Go.Proofs.Ytngjhblbpapjeaa.fnHomomorphismMonotonicity
open Go.ChangeMaps Go.ChangeShapes Go.WideShapes Go.ChangeAt Go.RowKit Go.Proofs.Ytngjhblbpapjeaa.Opens Go.Proofs.YtngjhblbpapjeaaW.PrintWords Go.Proofs.Ytngjhblbpapjeaa.H
set_option linter.unusedVariables false
theorem own : ownKnob Try.prog.godebug = none := by kernel_rfl
theorem laidOut : laidOutB Try.prog = true := by kernel_rfl
theorem op0 : Opens Try.prog (Kd.slice 5 (Kd.int .u8)) 60 (GL GU) := (opens_slice Try.underlying60 (by kernel_rfl) (0 : Int) (opens_u8 Try.underlying5 (by kernel_rfl)))
set_option maxRecDepth 100000 in
theorem lifted (os : Os) (started : os.Started) (H : Type) (enc : TypeId × Value → H) :
    ReturnsInHanded {} Try.checked os 9 .any (Rows.fnHomomorphismMonotonicitySpec.pre6 enc Try.prog Try.f9 Rows.fnHomomorphismMonotonicityRow.domain false) (Rows.fnHomomorphismMonotonicitySpec.post enc Try.prog Try.f9 false true false false) := by
  refine returnsInHanded_of_change_sized (C := Try.checked) own started (by kernel_rfl) Try.func9
    (ChangeSpec.witness6 (enc := enc) (C := Try.checked) false ⟨#[], #[.slice none 0 0], []⟩ 8 (by kernel_rfl) (by kernel_rfl) (by kernel_rfl) (by kernel_rfl)) ?_
  intro W base args ds gs before hval0 hW hcnd hsz0 _
  have hval : ∀ (j : Nat) t v, Try.f9.params[j]? = some t → args[j]? = some v → Value.okWide Try.prog W .any base t v := hval0
  have hW' := hW
  obtain ⟨p, q, hA0, hV, rfl, hfz, hnd⟩ := hW
  have hA : DataW.TrodAll enc Try.prog W 0 (fun _ => true) true Try.f9.params.toList args.toList ds p := hA0
  rw [Try.params9] at hA hval
  obtain ⟨v0, vs0, d0, ds0, p0, q0, hargs, rfl, rfl, h0, r0⟩ := trodAll_cons hA
  obtain ⟨rfl, rfl, rfl⟩ := trodAll_nil r0
  obtain rfl : args = #[v0] := by cases args; simp_all
  obtain ⟨rfl, rfl⟩ := trodVars_none hV
  obtain ⟨e0, len0, cap0, rfl⟩ := okWide_slice Try.underlying60 (hval 0 60 v0 rfl rfl)
  have k0 := h0
  have lt0 : ∀ x ∈ p0, x.block < W.heap.size := by obtain ⟨m, hm⟩ := k0; exact DataW.trod_lt m _ _ _ hm
  obtain ⟨l0, ⟨A0, c0, e0', hc0, hr0⟩, g0⟩ := op0.at h0
  obtain ⟨rfl, rfl, rfl⟩ : e0 = A0 ∧ len0 = l0.length ∧ cap0 = c0 := by simpa [Value.cells] using e0'
  clear hA0 hval0 hsz0
  refine (FnHomomorphismMonotonicity_calls W _ _ l0 hc0 hr0 (fun x hx => g0.2 x hx)).mono fun e W' ⟨he, bel0⟩ => ?_
  have bel : Below W.heap.size W W' := bel0
  subst he
  exact ⟨_, rfl, _, _, _, [], _, [], hW', trodAll_mk1 (shut_bool Try.underlying4 _), (trodAll_cons_mk (Below.trod laidOut (by kernel_rfl) (of_decide_eq_true (by kernel_rfl)) k0 bel lt0) trodAll_mk0), rfl, bel.frame _, fun h => by cases h⟩
theorem over : Rows.fnHomomorphismMonotonicityRow.holds Try.pinned (OpenSpec.ofChange Rows.fnHomomorphismMonotonicitySpec) :=
  OpenClaim.holds_of_wide 9 Try.f9 rfl rfl rfl rfl rfl rfl rfl ⟨rfl, rfl, rfl, rfl, rfl⟩ rfl rfl rfl rfl rfl (by kernel_rfl) Try.func9 (by kernel_rfl)
    (of_decide_eq_true (by kernel_rfl)) (by unfold Func.isWrapper; first | (rw [if_pos (by decide +kernel)]; kernel_rfl) | (rw [if_neg (by decide +kernel)]; exact ⟨rfl, rfl⟩))
    (fun os started H enc _ => lifted os started H enc)
theorem proved : Rows.FnHomomorphismMonotonicitySaid := over
end Go.Proofs.Ytngjhblbpapjeaa.fnHomomorphismMonotonicity
namespace Go.Proofs.Ytngjhblbpapjeaa
/-- The row, under a short name, for the claim. -/
theorem fnHomomorphismMonotonicity_holds : Rows.FnHomomorphismMonotonicitySaid := fnHomomorphismMonotonicity.proved
end Go.Proofs.Ytngjhblbpapjeaa
