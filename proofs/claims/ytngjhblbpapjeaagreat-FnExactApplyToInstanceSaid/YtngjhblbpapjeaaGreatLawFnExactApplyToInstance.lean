/- The row of the law FnExactApplyToInstance: for every input that can be read the call answers true and leaves its arguments alone; out of the pure statement and the printed contract. No condition. -/
import Derived.Test.YtngjhblbpapjeaaGreatRows
import Derived.Test.YtngjhblbpapjeaaGreatZFnExactApplyToInstance6
import Derived.Test.YtngjhblbpapjeaaGreatOpens
import Derived.WalkKit
import Derived.ProofKit
import Derived.OpenShut
import Derived.ShutString
import Derived.ChangeOld
import Derived.Below
import Derived.SizedLaws
import Derived.Carry
import Derived.ChangeMaps5
namespace Go.Proofs.YtngjhblbpapjeaaGreat.fnExactApplyToInstance
open Go.ChangeMaps Go.ChangeShapes Go.WideShapes Go.ChangeAt Go.RowKit Go.Proofs.YtngjhblbpapjeaaGreat.Opens Go.Proofs.YtngjhblbpapjeaaGreatW.PrintWords Go.Proofs.YtngjhblbpapjeaaGreat.H
set_option linter.unusedVariables false
theorem own : ownKnob Tryz.prog.godebug = none := by kernel_rfl
theorem laidOut : laidOutB Tryz.prog = true := by kernel_rfl
theorem op0 : Opens Tryz.prog (Kd.pair (Kd.slice 3 (Kd.int .i64)) (Kd.slice 3 (Kd.int .i64))) 55 (GP (GL GI) (GL GI)) := (opens_pair2 Tryz.underlying55 (by kernel_rfl) (by kernel_rfl) (opens_slice Tryz.underlying28 (by kernel_rfl) (0 : Int) (opens_int Tryz.underlying3 (by kernel_rfl))) (opens_slice Tryz.underlying28 (by kernel_rfl) (0 : Int) (opens_int Tryz.underlying3 (by kernel_rfl))))
theorem op1 : Opens Tryz.prog (Kd.pair (Kd.slice 112 (Kd.pair Kd.string (Kd.pair (Kd.int .i64) Kd.bool))) (Kd.slice 45 (Kd.pair (Kd.int .i64) (Kd.slice 3 (Kd.int .i64))))) 44 (GP (GL (GP GS (GP GI GB))) (GL (GP GI (GL GI)))) := (opens_pair2 Tryz.underlying44 (by kernel_rfl) (by kernel_rfl) (opens_slice Tryz.underlying41 (by kernel_rfl) (ByteArray.empty, (0 : Int), false) (opens_pair3 Tryz.underlying112 (by kernel_rfl) (by kernel_rfl) (opens_string Tryz.underlying9 (by kernel_rfl)) (opens_int Tryz.underlying3 (by kernel_rfl)) (opens_bool Tryz.underlying4 (by kernel_rfl)))) (opens_slice Tryz.underlying42 (by kernel_rfl) ((0 : Int), []) (opens_pair2 Tryz.underlying45 (by kernel_rfl) (by kernel_rfl) (opens_int Tryz.underlying3 (by kernel_rfl)) (opens_slice Tryz.underlying28 (by kernel_rfl) (0 : Int) (opens_int Tryz.underlying3 (by kernel_rfl))))))
set_option maxRecDepth 100000 in
theorem lifted (os : Os) (started : os.Started) (H : Type) (enc : TypeId × Value → H) :
    ReturnsInHanded {} Tryz.checked os 5 .any (Rows.fnExactApplyToInstanceSpec.pre6 enc Tryz.prog Tryz.f5 Rows.fnExactApplyToInstanceRow.domain false) (Rows.fnExactApplyToInstanceSpec.post enc Tryz.prog Tryz.f5 false true false false) := by
  refine returnsInHanded_of_change_sized (C := Tryz.checked) own started (by kernel_rfl) Tryz.func5
    (ChangeSpec.witness6 (enc := enc) (C := Tryz.checked) false ⟨#[], #[.agg #[.slice none 0 0, .slice none 0 0], .agg #[.slice none 0 0, .slice none 0 0]], []⟩ 8 (by kernel_rfl) (by kernel_rfl) (by kernel_rfl) (by kernel_rfl)) ?_
  intro W base args ds gs before hval0 hW hcnd hsz0 _
  have hval : ∀ (j : Nat) t v, Tryz.f5.params[j]? = some t → args[j]? = some v → Value.okWide Tryz.prog W .any base t v := hval0
  have hW' := hW
  obtain ⟨p, q, hA0, hV, rfl, hfz, hnd⟩ := hW
  have hA : DataW.TrodAll enc Tryz.prog W 0 (fun _ => true) true Tryz.f5.params.toList args.toList ds p := hA0
  rw [Tryz.params5] at hA hval
  obtain ⟨v0, vs0, d0, ds0, p0, q0, hargs, rfl, rfl, h0, r0⟩ := trodAll_cons hA
  obtain ⟨v1, vs1, d1, ds1, p1, q1, rfl, rfl, rfl, h1, r1⟩ := trodAll_cons r0
  obtain ⟨rfl, rfl, rfl⟩ := trodAll_nil r1
  obtain rfl : args = #[v0, v1] := by cases args; simp_all
  obtain ⟨rfl, rfl⟩ := trodVars_none hV
  obtain ⟨cs0, rfl, _⟩ := okWide_struct Tryz.underlying55 (hval 0 55 v0 rfl rfl)
  have k0 := h0
  have lt0 : ∀ x ∈ p0, x.block < W.heap.size := by obtain ⟨m, hm⟩ := k0; exact DataW.trod_lt m _ _ _ hm
  obtain ⟨⟨l0_0, l0_1⟩, K0, ⟨g0_0, g0_1⟩⟩ := op0.at h0
  obtain ⟨_, _, e0, ⟨A0_0, c0_0, rfl, hc0_0, hr0_0⟩, ⟨A0_1, c0_1, rfl, hc0_1, hr0_1⟩⟩ := K0
  obtain rfl : cs0 = #[.slice A0_0 l0_0.length c0_0, .slice A0_1 l0_1.length c0_1] := Array.toList_inj.1 e0
  obtain ⟨cs1, rfl, _⟩ := okWide_struct Tryz.underlying44 (hval 1 44 v1 rfl rfl)
  have k1 := h1
  have lt1 : ∀ x ∈ p1, x.block < W.heap.size := by obtain ⟨m, hm⟩ := k1; exact DataW.trod_lt m _ _ _ hm
  obtain ⟨⟨l1_0, l1_1⟩, K1, ⟨g1_0, g1_1⟩⟩ := op1.at h1
  obtain ⟨_, _, e1, ⟨A1_0, c1_0, rfl, hc1_0, hr1_0⟩, ⟨A1_1, c1_1, rfl, hc1_1, hr1_1⟩⟩ := K1
  obtain rfl : cs1 = #[.slice A1_0 l1_0.length c1_0, .slice A1_1 l1_1.length c1_1] := Array.toList_inj.1 e1
  clear hA0 hval0 hsz0
  refine (FnExactApplyToInstance_calls W _ l0_0 l0_1 ⟨A0_0, c0_0, A0_1, c0_1, rfl, ⟨hc0_0, hr0_0, fun x hx => g0_0.2 x hx⟩, ⟨hc0_1, hr0_1, fun x hx => g0_1.2 x hx⟩⟩ _ l1_0 l1_1 ⟨A1_0, c1_0, A1_1, c1_1, rfl, ⟨hc1_0, hr1_0⟩, ⟨hc1_1, hr1_1, fun f hf => (g1_1.2 f hf).2.2⟩⟩ (fun r hr => (g1_0.2 r hr).1)).mono fun e W' ⟨he, bel0⟩ => ?_
  have bel : Below W.heap.size W W' := bel0
  subst he
  exact ⟨_, rfl, _, _, _, [], _, [], hW', trodAll_mk1 (shut_bool Tryz.underlying4 _), (trodAll_cons_mk (Below.trod laidOut (by kernel_rfl) (of_decide_eq_true (by kernel_rfl)) k0 bel lt0) (trodAll_cons_mk (Below.trod laidOut (by kernel_rfl) (of_decide_eq_true (by kernel_rfl)) k1 bel lt1) trodAll_mk0)), rfl, bel.frame _, fun h => by cases h⟩
theorem over : Rows.fnExactApplyToInstanceRow.holds Tryz.pinned (OpenSpec.ofChange Rows.fnExactApplyToInstanceSpec) :=
  OpenClaim.holds_of_wide 5 Tryz.f5 rfl rfl rfl rfl rfl rfl rfl ⟨rfl, rfl, rfl, rfl, rfl⟩ rfl rfl rfl rfl rfl (by kernel_rfl) Tryz.func5 (by kernel_rfl)
    (of_decide_eq_true (by kernel_rfl)) (by unfold Func.isWrapper; first | (rw [if_pos (by decide +kernel)]; kernel_rfl) | (rw [if_neg (by decide +kernel)]; exact ⟨rfl, rfl⟩))
    (fun os started H enc _ => lifted os started H enc)
theorem proved : Rows.FnExactApplyToInstanceSaid := over
end Go.Proofs.YtngjhblbpapjeaaGreat.fnExactApplyToInstance
namespace Go.Proofs.YtngjhblbpapjeaaGreat
/-- The row, under a short name, for the claim. -/
theorem fnExactApplyToInstance_holds : Rows.FnExactApplyToInstanceSaid := fnExactApplyToInstance.proved
end Go.Proofs.YtngjhblbpapjeaaGreat
