/- The row of the law FnExactRelationIndex: for every input that can be read the call answers true and leaves its arguments alone; out of the pure statement and the printed contract. No condition. -/
import Derived.Test.YtaimpokajhkgnaaRows
import Derived.Test.YtaimpokajhkgnaaPFnExactRelationIndexx2
import Derived.Test.YtaimpokajhkgnaaPureFnExactRelationIndex
import Derived.Test.YtaimpokajhkgnaaOpens
import Derived.WalkKit
import Derived.ProofKit
import Derived.OpenShut
import Derived.ShutString
import Derived.ChangeOld
import Derived.Below
import Derived.SizedLaws
import Derived.Carry
import Derived.ChangeMaps5
namespace Go.Proofs.Ytaimpokajhkgnaa.fnExactRelationIndex
open Go.ChangeMaps Go.ChangeShapes Go.WideShapes Go.ChangeAt Go.RowKit Go.Proofs.Ytaimpokajhkgnaa.PFnExactRelationIndex Go.Proofs.Ytaimpokajhkgnaa.Opens Go.Proofs.YtaimpokajhkgnaaW.PrintWords
set_option linter.unusedVariables false
theorem own : ownKnob Try.prog.godebug = none := by kernel_rfl
theorem laidOut : laidOutB Try.prog = true := by kernel_rfl
theorem op0 : Opens Try.prog (Kd.slice 63 k63) 25 (GL (fun x : S63 => GP GS (GP GI GB) (x.f0, x.f1, x.f2))) := (opens_slice Try.underlying25 (by kernel_rfl) z63 (opens_iso (fun x : S63 => (x.f0, x.f1, x.f2)) (fun a => ⟨a.1, a.2.1, a.2.2⟩) (fun _ => rfl) (opens_pair3 Try.underlying63 (by kernel_rfl) (by kernel_rfl) (opens_string Try.underlying9 (by kernel_rfl)) (opens_int Try.underlying3 (by kernel_rfl)) (opens_bool Try.underlying4 (by kernel_rfl)))))
theorem op1 : Opens Try.prog Kd.string 9 GS := (opens_string Try.underlying9 (by kernel_rfl))
set_option maxRecDepth 100000 in
theorem lifted (os : Os) (started : os.Started) (H : Type) (enc : TypeId × Value → H) :
    ReturnsInHanded {} Try.checked os 4 .any (Rows.fnExactRelationIndexSpec.pre6 enc Try.prog Try.f4 Rows.fnExactRelationIndexRow.domain false) (Rows.fnExactRelationIndexSpec.post enc Try.prog Try.f4 false true false false) := by
  refine returnsInHanded_of_change_sized (C := Try.checked) own started (by kernel_rfl) Try.func4
    (ChangeSpec.witness6 (enc := enc) (C := Try.checked) false ⟨#[], #[.slice none 0 0, .string ByteArray.empty], []⟩ 8 (by kernel_rfl) (by kernel_rfl) (by kernel_rfl) (by kernel_rfl)) ?_
  intro W base args ds gs before hval0 hW hcnd hsz0 _
  have hval : ∀ (j : Nat) t v, Try.f4.params[j]? = some t → args[j]? = some v → Value.okWide Try.prog W .any base t v := hval0
  have hW' := hW
  obtain ⟨p, q, hA0, hV, rfl, hfz, hnd⟩ := hW
  have hA : DataW.TrodAll enc Try.prog W 0 (fun _ => true) true Try.f4.params.toList args.toList ds p := hA0
  rw [Try.params4] at hA hval
  obtain ⟨v0, vs0, d0, ds0, p0, q0, hargs, rfl, rfl, h0, r0⟩ := trodAll_cons hA
  obtain ⟨v1, vs1, d1, ds1, p1, q1, rfl, rfl, rfl, h1, r1⟩ := trodAll_cons r0
  obtain ⟨rfl, rfl, rfl⟩ := trodAll_nil r1
  obtain rfl : args = #[v0, v1] := by cases args; simp_all
  obtain ⟨rfl, rfl⟩ := trodVars_none hV
  obtain ⟨e0, len0, cap0, rfl⟩ := okWide_slice Try.underlying25 (hval 0 25 v0 rfl rfl)
  have k0 := h0
  have lt0 : ∀ x ∈ p0, x.block < W.heap.size := by obtain ⟨m, hm⟩ := k0; exact DataW.trod_lt m _ _ _ hm
  obtain ⟨l0, ⟨A0, c0, e0', hc0, hr0⟩, g0⟩ := op0.at h0
  obtain ⟨rfl, rfl, rfl⟩ : e0 = A0 ∧ len0 = l0.length ∧ cap0 = c0 := by simpa [Value.cells] using e0'
  obtain ⟨a1, rfl, rfl, rfl, y1⟩ := open_string Try.underlying9 (hval 1 9 v1 rfl rfl) h1
  have g1 : GS a1 := y1
  clear hA0 hval0 hsz0
  obtain ⟨k, hp⟩ := Pure.FnExactRelationIndex l0 a1 g0 g1
  refine (laws_FnExactRelationIndex.calls k _ _ l0 a1 W hr0 hc0 hp).mono fun e W' ⟨he, bel0⟩ => ?_
  have bel : Below W.heap.size W W' := bel0
  subst he
  exact ⟨_, rfl, _, _, _, [], _, [], hW', trodAll_mk1 (shut_bool Try.underlying4 _), (trodAll_cons_mk (Below.trod laidOut (by kernel_rfl) (of_decide_eq_true (by kernel_rfl)) k0 bel lt0) (trodAll_cons_mk (shut_string Try.underlying9 y1) trodAll_mk0)), rfl, bel.frame _, fun h => by cases h⟩
theorem over : Rows.fnExactRelationIndexRow.holds Try.pinned (OpenSpec.ofChange Rows.fnExactRelationIndexSpec) :=
  OpenClaim.holds_of_wide 4 Try.f4 rfl rfl rfl rfl rfl rfl rfl ⟨rfl, rfl, rfl, rfl, rfl⟩ rfl rfl rfl rfl rfl (by kernel_rfl) Try.func4 (by kernel_rfl)
    (of_decide_eq_true (by kernel_rfl)) (by unfold Func.isWrapper; first | (rw [if_pos (by decide +kernel)]; kernel_rfl) | (rw [if_neg (by decide +kernel)]; exact ⟨rfl, rfl⟩))
    (fun os started H enc _ => lifted os started H enc)
theorem proved : Rows.FnExactRelationIndexSaid := over
end Go.Proofs.Ytaimpokajhkgnaa.fnExactRelationIndex
namespace Go.Proofs.Ytaimpokajhkgnaa
/-- The row, under a short name, for the claim. -/
theorem fnExactRelationIndex_holds : Rows.FnExactRelationIndexSaid := fnExactRelationIndex.proved
end Go.Proofs.Ytaimpokajhkgnaa
