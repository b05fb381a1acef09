/-
  No cell of these rows narrows 'for every input' (looked for: loops, veiled, ifaces, maps, wideKeys, modest, calm, conditions, laid).
  DERIVED. THE GIVEN ROWS OF THIS SEAT. 9 by the template 'for every input the law returns true; each argument reads behind the call as it read before'; 0 by the template 'total and deterministic' (their statements: YtaimpokajhkgnaaTotals.lean).
  GIVEN WITH THE SEED: the statements are not yours to turn. If you find one false, say at which input.
  Laid BY PROGRAM, IN A SANDBOX (cutbox-rows.mjs): the forced cells as the released guide's own fill.sh prints them over the translation 3c6112258cf235e7… (all of the seat's roots in one cut). By AI agents, Wed Nov 11 2026. No macro, syntax, notation, axiom, sorry.
-/
import Derived.Test.YtaimpokajhkgnaaChecked
import GoSem.Claim
import GoSem.ClaimJoined
import GoSem.ClaimMapViews
import Derived.JoinedTies
import Derived.KernelRfl
namespace Go.Proofs.Ytaimpokajhkgnaa
/- THE CELL 'sum', in the pinned program and in every row, IS THE sha256 OF THE DUMP (.gsa) THAT YtaimpokajhkgnaaProg.lean LOADS. Nothing in Lean hashes anything: it is a label: what it is worth is what the hold of that sum in a sandbox is worth. -/
noncomputable def Try.pinned : Pinned := { name := "ytaimpokajhkgnaa", sum := "3c6112258cf235e786a873395d79e344807f26e983223a77ec071d395c7a3f0e", checked := Try.checked }
namespace Rows
def none {H : Type} : Left H := { results := [], args := [] }

/-- 'laws.FnExactDecodeHex': WHATEVER THE INPUT: true; the input reads as it did. -/
def fnExactDecodeHexSpec : ChangeSpec := { name := "fnExactDecodeHex", fn := fun _ => fun
  | [d] => { results := [.lit (.bool true)], args := [d] }
  | _ => none }
def fnExactDecodeHexRow : OpenClaim := { program := "ytaimpokajhkgnaa", sum := "3c6112258cf235e786a873395d79e344807f26e983223a77ec071d395c7a3f0e", func := "loop.example/g01919/laws.FnExactDecodeHex", spec := "fnExactDecodeHex", apart := false }
def FnExactDecodeHexSaid : Prop := fnExactDecodeHexRow.holds Try.pinned (OpenSpec.ofChange fnExactDecodeHexSpec)

/-- ITS FALSE NEIGHBOUR: 'it returns false'. Refute it at one input. -/
def fnExactDecodeHexWrong : ChangeSpec := { name := "fnExactDecodeHex", fn := fun _ => fun
  | [d] => { results := [.lit (.bool false)], args := [d] }
  | _ => none }
def FnExactDecodeHexWrongFalsely : Prop := fnExactDecodeHexRow.holds Try.pinned (OpenSpec.ofChange fnExactDecodeHexWrong)

/-- 'laws.FnExactRelationIndex': WHATEVER THE INPUT: true; the input reads as it did. -/
def fnExactRelationIndexSpec : ChangeSpec := { name := "fnExactRelationIndex", fn := fun _ => fun
  | [d1, d2] => { results := [.lit (.bool true)], args := [d1, d2] }
  | _ => none }
def fnExactRelationIndexRow : OpenClaim := { program := "ytaimpokajhkgnaa", sum := "3c6112258cf235e786a873395d79e344807f26e983223a77ec071d395c7a3f0e", func := "loop.example/g01919/laws.FnExactRelationIndex", spec := "fnExactRelationIndex", unfollowed := true, recurses := true, apart := false }
def FnExactRelationIndexSaid : Prop := fnExactRelationIndexRow.holds Try.pinned (OpenSpec.ofChange fnExactRelationIndexSpec)

/-- ITS FALSE NEIGHBOUR: 'it returns false'. Refute it at one input. -/
def fnExactRelationIndexWrong : ChangeSpec := { name := "fnExactRelationIndex", fn := fun _ => fun
  | [d1, d2] => { results := [.lit (.bool false)], args := [d1, d2] }
  | _ => none }
def FnExactRelationIndexWrongFalsely : Prop := fnExactRelationIndexRow.holds Try.pinned (OpenSpec.ofChange fnExactRelationIndexWrong)

/-- 'laws.FnExactAreValidRelations': WHATEVER THE INPUT: true; the input reads as it did. -/
def fnExactAreValidRelationsSpec : ChangeSpec := { name := "fnExactAreValidRelations", fn := fun _ => fun
  | [d] => { results := [.lit (.bool true)], args := [d] }
  | _ => none }
def fnExactAreValidRelationsRow : OpenClaim := { program := "ytaimpokajhkgnaa", sum := "3c6112258cf235e786a873395d79e344807f26e983223a77ec071d395c7a3f0e", func := "loop.example/g01919/laws.FnExactAreValidRelations", spec := "fnExactAreValidRelations", apart := false }
def FnExactAreValidRelationsSaid : Prop := fnExactAreValidRelationsRow.holds Try.pinned (OpenSpec.ofChange fnExactAreValidRelationsSpec)

/-- ITS FALSE NEIGHBOUR: 'it returns false'. Refute it at one input. -/
def fnExactAreValidRelationsWrong : ChangeSpec := { name := "fnExactAreValidRelations", fn := fun _ => fun
  | [d] => { results := [.lit (.bool false)], args := [d] }
  | _ => none }
def FnExactAreValidRelationsWrongFalsely : Prop := fnExactAreValidRelationsRow.holds Try.pinned (OpenSpec.ofChange fnExactAreValidRelationsWrong)

/-- 'laws.FnExactEqualSubstitutions': WHATEVER THE INPUT: true; the input reads as it did. -/
def fnExactEqualSubstitutionsSpec : ChangeSpec := { name := "fnExactEqualSubstitutions", fn := fun _ => fun
  | [d1, d2] => { results := [.lit (.bool true)], args := [d1, d2] }
  | _ => none }
def fnExactEqualSubstitutionsRow : OpenClaim := { program := "ytaimpokajhkgnaa", sum := "3c6112258cf235e786a873395d79e344807f26e983223a77ec071d395c7a3f0e", func := "loop.example/g01919/laws.FnExactEqualSubstitutions", spec := "fnExactEqualSubstitutions", apart := false }
def FnExactEqualSubstitutionsSaid : Prop := fnExactEqualSubstitutionsRow.holds Try.pinned (OpenSpec.ofChange fnExactEqualSubstitutionsSpec)

/-- ITS FALSE NEIGHBOUR: 'it returns false'. Refute it at one input. -/
def fnExactEqualSubstitutionsWrong : ChangeSpec := { name := "fnExactEqualSubstitutions", fn := fun _ => fun
  | [d1, d2] => { results := [.lit (.bool false)], args := [d1, d2] }
  | _ => none }
def FnExactEqualSubstitutionsWrongFalsely : Prop := fnExactEqualSubstitutionsRow.holds Try.pinned (OpenSpec.ofChange fnExactEqualSubstitutionsWrong)

/-- 'laws.FnExactIsValidSubstitution': WHATEVER THE INPUT: true; the input reads as it did. -/
def fnExactIsValidSubstitutionSpec : ChangeSpec := { name := "fnExactIsValidSubstitution", fn := fun _ => fun
  | [d] => { results := [.lit (.bool true)], args := [d] }
  | _ => none }
def fnExactIsValidSubstitutionRow : OpenClaim := { program := "ytaimpokajhkgnaa", sum := "3c6112258cf235e786a873395d79e344807f26e983223a77ec071d395c7a3f0e", func := "loop.example/g01919/laws.FnExactIsValidSubstitution", spec := "fnExactIsValidSubstitution", apart := false }
def FnExactIsValidSubstitutionSaid : Prop := fnExactIsValidSubstitutionRow.holds Try.pinned (OpenSpec.ofChange fnExactIsValidSubstitutionSpec)

/-- ITS FALSE NEIGHBOUR: 'it returns false'. Refute it at one input. -/
def fnExactIsValidSubstitutionWrong : ChangeSpec := { name := "fnExactIsValidSubstitution", fn := fun _ => fun
  | [d] => { results := [.lit (.bool false)], args := [d] }
  | _ => none }
def FnExactIsValidSubstitutionWrongFalsely : Prop := fnExactIsValidSubstitutionRow.holds Try.pinned (OpenSpec.ofChange fnExactIsValidSubstitutionWrong)

/-- 'laws.FnExactApplyToValue': WHATEVER THE INPUT: true; the input reads as it did. -/
def fnExactApplyToValueSpec : ChangeSpec := { name := "fnExactApplyToValue", fn := fun _ => fun
  | [d1, d2] => { results := [.lit (.bool true)], args := [d1, d2] }
  | _ => none }
def fnExactApplyToValueRow : OpenClaim := { program := "ytaimpokajhkgnaa", sum := "3c6112258cf235e786a873395d79e344807f26e983223a77ec071d395c7a3f0e", func := "loop.example/g01919/laws.FnExactApplyToValue", spec := "fnExactApplyToValue", apart := false }
def FnExactApplyToValueSaid : Prop := fnExactApplyToValueRow.holds Try.pinned (OpenSpec.ofChange fnExactApplyToValueSpec)

/-- ITS FALSE NEIGHBOUR: 'it returns false'. Refute it at one input. -/
def fnExactApplyToValueWrong : ChangeSpec := { name := "fnExactApplyToValue", fn := fun _ => fun
  | [d1, d2] => { results := [.lit (.bool false)], args := [d1, d2] }
  | _ => none }
def FnExactApplyToValueWrongFalsely : Prop := fnExactApplyToValueRow.holds Try.pinned (OpenSpec.ofChange fnExactApplyToValueWrong)

/-- 'laws.FnExactCompareFacts': WHATEVER THE INPUT: true; the input reads as it did. -/
def fnExactCompareFactsSpec : ChangeSpec := { name := "fnExactCompareFacts", fn := fun _ => fun
  | [d1, d2] => { results := [.lit (.bool true)], args := [d1, d2] }
  | _ => none }
def fnExactCompareFactsRow : OpenClaim := { program := "ytaimpokajhkgnaa", sum := "3c6112258cf235e786a873395d79e344807f26e983223a77ec071d395c7a3f0e", func := "loop.example/g01919/laws.FnExactCompareFacts", spec := "fnExactCompareFacts", apart := false }
def FnExactCompareFactsSaid : Prop := fnExactCompareFactsRow.holds Try.pinned (OpenSpec.ofChange fnExactCompareFactsSpec)

/-- ITS FALSE NEIGHBOUR: 'it returns false'. Refute it at one input. -/
def fnExactCompareFactsWrong : ChangeSpec := { name := "fnExactCompareFacts", fn := fun _ => fun
  | [d1, d2] => { results := [.lit (.bool false)], args := [d1, d2] }
  | _ => none }
def FnExactCompareFactsWrongFalsely : Prop := fnExactCompareFactsRow.holds Try.pinned (OpenSpec.ofChange fnExactCompareFactsWrong)

/-- 'laws.FnExactIsValidFact': WHATEVER THE INPUT: true; the input reads as it did. -/
def fnExactIsValidFactSpec : ChangeSpec := { name := "fnExactIsValidFact", fn := fun _ => fun
  | [d1, d2] => { results := [.lit (.bool true)], args := [d1, d2] }
  | _ => none }
def fnExactIsValidFactRow : OpenClaim := { program := "ytaimpokajhkgnaa", sum := "3c6112258cf235e786a873395d79e344807f26e983223a77ec071d395c7a3f0e", func := "loop.example/g01919/laws.FnExactIsValidFact", spec := "fnExactIsValidFact", unfollowed := true, recurses := true, apart := false }
def FnExactIsValidFactSaid : Prop := fnExactIsValidFactRow.holds Try.pinned (OpenSpec.ofChange fnExactIsValidFactSpec)

/-- ITS FALSE NEIGHBOUR: 'it returns false'. Refute it at one input. -/
def fnExactIsValidFactWrong : ChangeSpec := { name := "fnExactIsValidFact", fn := fun _ => fun
  | [d1, d2] => { results := [.lit (.bool false)], args := [d1, d2] }
  | _ => none }
def FnExactIsValidFactWrongFalsely : Prop := fnExactIsValidFactRow.holds Try.pinned (OpenSpec.ofChange fnExactIsValidFactWrong)

/-- 'laws.FnExactApplyToFact': WHATEVER THE INPUT: true; the input reads as it did. -/
def fnExactApplyToFactSpec : ChangeSpec := { name := "fnExactApplyToFact", fn := fun _ => fun
  | [d1, d2] => { results := [.lit (.bool true)], args := [d1, d2] }
  | _ => none }
def fnExactApplyToFactRow : OpenClaim := { program := "ytaimpokajhkgnaa", sum := "3c6112258cf235e786a873395d79e344807f26e983223a77ec071d395c7a3f0e", func := "loop.example/g01919/laws.FnExactApplyToFact", spec := "fnExactApplyToFact", apart := false }
def FnExactApplyToFactSaid : Prop := fnExactApplyToFactRow.holds Try.pinned (OpenSpec.ofChange fnExactApplyToFactSpec)

/-- ITS FALSE NEIGHBOUR: 'it returns false'. Refute it at one input. -/
def fnExactApplyToFactWrong : ChangeSpec := { name := "fnExactApplyToFact", fn := fun _ => fun
  | [d1, d2] => { results := [.lit (.bool false)], args := [d1, d2] }
  | _ => none }
def FnExactApplyToFactWrongFalsely : Prop := fnExactApplyToFactRow.holds Try.pinned (OpenSpec.ofChange fnExactApplyToFactWrong)

/- THE SECOND FORM. 'bulk': how many values and letters a reading holds, each counted each time it is reached (what is shared counts as often as it is met; a slice's spare places count too). A statement '..UptoSaid' is the law's where the arguments, and the package variables that the reading takes, are together of bulk at most 1048576: NARROWER than '..Said'. Prove '..Said' where nothing that the law and all that it calls make is longer than what came in: it says more and counts as full. Else prove '..UptoSaid'. A law counts once. -/
mutual
def uptoBulk {H : Type} : DataW H → Nat
  | .lit (.string bytes) => bytes.length + 1
  | .lit _ => 1
  | .nil => 1
  | .ptr d => uptoBulk d + 1
  | .slice elems spare => uptoBulkAll elems + uptoBulkAll spare + 1
  | .agg parts => uptoBulkAll parts + 1
  | .iface _ d => uptoBulk d + 1
  | .map entries => uptoBulkEntries entries + 1
  | .held _ => 1
def uptoBulkAll {H : Type} : List (DataW H) → Nat
  | [] => 0
  | d :: r => uptoBulk d + uptoBulkAll r
def uptoBulkEntries {H : Type} : List (Lit × DataW H) → Nat
  | [] => 0
  | x :: r => uptoBulkEntry x + uptoBulkEntries r
def uptoBulkEntry {H : Type} : Lit × DataW H → Nat
  | (.string bytes, d) => bytes.length + uptoBulk d + 1
  | (_, d) => uptoBulk d + 1
 end
def uptoSmall : (H : Type) → List (DataW H) → Bool := fun _ ds => decide (uptoBulkAll ds ≤ 1048576)
def OpenSpec.upto (s : _root_.Go.ChangeSpec) : _root_.Go.OpenSpec := { _root_.Go.OpenSpec.ofChange s with cond := some uptoSmall }

/-- 'laws.FnExactDecodeHex', WHERE WHAT IT READS IS OF BULK AT MOST 1048576: true; the input reads as it did. -/
def fnExactDecodeHexUptoRow : OpenClaim := { program := "ytaimpokajhkgnaa", sum := "3c6112258cf235e786a873395d79e344807f26e983223a77ec071d395c7a3f0e", func := "loop.example/g01919/laws.FnExactDecodeHex", spec := "fnExactDecodeHex", apart := false, narrowed := true }
def FnExactDecodeHexUptoSaid : Prop := fnExactDecodeHexUptoRow.holds Try.pinned (OpenSpec.upto fnExactDecodeHexSpec)

/-- 'laws.FnExactRelationIndex', WHERE WHAT IT READS IS OF BULK AT MOST 1048576: true; the input reads as it did. -/
def fnExactRelationIndexUptoRow : OpenClaim := { program := "ytaimpokajhkgnaa", sum := "3c6112258cf235e786a873395d79e344807f26e983223a77ec071d395c7a3f0e", func := "loop.example/g01919/laws.FnExactRelationIndex", spec := "fnExactRelationIndex", unfollowed := true, recurses := true, apart := false, narrowed := true }
def FnExactRelationIndexUptoSaid : Prop := fnExactRelationIndexUptoRow.holds Try.pinned (OpenSpec.upto fnExactRelationIndexSpec)

/-- 'laws.FnExactAreValidRelations', WHERE WHAT IT READS IS OF BULK AT MOST 1048576: true; the input reads as it did. -/
def fnExactAreValidRelationsUptoRow : OpenClaim := { program := "ytaimpokajhkgnaa", sum := "3c6112258cf235e786a873395d79e344807f26e983223a77ec071d395c7a3f0e", func := "loop.example/g01919/laws.FnExactAreValidRelations", spec := "fnExactAreValidRelations", apart := false, narrowed := true }
def FnExactAreValidRelationsUptoSaid : Prop := fnExactAreValidRelationsUptoRow.holds Try.pinned (OpenSpec.upto fnExactAreValidRelationsSpec)

/-- 'laws.FnExactEqualSubstitutions', WHERE WHAT IT READS IS OF BULK AT MOST 1048576: true; the input reads as it did. -/
def fnExactEqualSubstitutionsUptoRow : OpenClaim := { program := "ytaimpokajhkgnaa", sum := "3c6112258cf235e786a873395d79e344807f26e983223a77ec071d395c7a3f0e", func := "loop.example/g01919/laws.FnExactEqualSubstitutions", spec := "fnExactEqualSubstitutions", apart := false, narrowed := true }
def FnExactEqualSubstitutionsUptoSaid : Prop := fnExactEqualSubstitutionsUptoRow.holds Try.pinned (OpenSpec.upto fnExactEqualSubstitutionsSpec)

/-- 'laws.FnExactIsValidSubstitution', WHERE WHAT IT READS IS OF BULK AT MOST 1048576: true; the input reads as it did. -/
def fnExactIsValidSubstitutionUptoRow : OpenClaim := { program := "ytaimpokajhkgnaa", sum := "3c6112258cf235e786a873395d79e344807f26e983223a77ec071d395c7a3f0e", func := "loop.example/g01919/laws.FnExactIsValidSubstitution", spec := "fnExactIsValidSubstitution", apart := false, narrowed := true }
def FnExactIsValidSubstitutionUptoSaid : Prop := fnExactIsValidSubstitutionUptoRow.holds Try.pinned (OpenSpec.upto fnExactIsValidSubstitutionSpec)

/-- 'laws.FnExactApplyToValue', WHERE WHAT IT READS IS OF BULK AT MOST 1048576: true; the input reads as it did. -/
def fnExactApplyToValueUptoRow : OpenClaim := { program := "ytaimpokajhkgnaa", sum := "3c6112258cf235e786a873395d79e344807f26e983223a77ec071d395c7a3f0e", func := "loop.example/g01919/laws.FnExactApplyToValue", spec := "fnExactApplyToValue", apart := false, narrowed := true }
def FnExactApplyToValueUptoSaid : Prop := fnExactApplyToValueUptoRow.holds Try.pinned (OpenSpec.upto fnExactApplyToValueSpec)

/-- 'laws.FnExactCompareFacts', WHERE WHAT IT READS IS OF BULK AT MOST 1048576: true; the input reads as it did. -/
def fnExactCompareFactsUptoRow : OpenClaim := { program := "ytaimpokajhkgnaa", sum := "3c6112258cf235e786a873395d79e344807f26e983223a77ec071d395c7a3f0e", func := "loop.example/g01919/laws.FnExactCompareFacts", spec := "fnExactCompareFacts", apart := false, narrowed := true }
def FnExactCompareFactsUptoSaid : Prop := fnExactCompareFactsUptoRow.holds Try.pinned (OpenSpec.upto fnExactCompareFactsSpec)

/-- 'laws.FnExactIsValidFact', WHERE WHAT IT READS IS OF BULK AT MOST 1048576: true; the input reads as it did. -/
def fnExactIsValidFactUptoRow : OpenClaim := { program := "ytaimpokajhkgnaa", sum := "3c6112258cf235e786a873395d79e344807f26e983223a77ec071d395c7a3f0e", func := "loop.example/g01919/laws.FnExactIsValidFact", spec := "fnExactIsValidFact", unfollowed := true, recurses := true, apart := false, narrowed := true }
def FnExactIsValidFactUptoSaid : Prop := fnExactIsValidFactUptoRow.holds Try.pinned (OpenSpec.upto fnExactIsValidFactSpec)

/-- 'laws.FnExactApplyToFact', WHERE WHAT IT READS IS OF BULK AT MOST 1048576: true; the input reads as it did. -/
def fnExactApplyToFactUptoRow : OpenClaim := { program := "ytaimpokajhkgnaa", sum := "3c6112258cf235e786a873395d79e344807f26e983223a77ec071d395c7a3f0e", func := "loop.example/g01919/laws.FnExactApplyToFact", spec := "fnExactApplyToFact", apart := false, narrowed := true }
def FnExactApplyToFactUptoSaid : Prop := fnExactApplyToFactUptoRow.holds Try.pinned (OpenSpec.upto fnExactApplyToFactSpec)

end Rows
end Go.Proofs.Ytaimpokajhkgnaa
