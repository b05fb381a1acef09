/-
  No cell of these rows narrows 'for every input' (looked for: loops, veiled, ifaces, maps, wideKeys, modest, calm, conditions, laid).
  DERIVED. THE GIVEN ROWS OF THIS SEAT. 11 by the template 'for every input the law returns true; each argument reads behind the call as it read before'; 0 by the template 'total and deterministic' (their statements: YtbmkfaejleleiaaTotals.lean).
  GIVEN WITH THE SEED: the statements are not yours to turn. If you find one false, say at which input.
  Laid BY PROGRAM, IN A SANDBOX (cutbox-rows.mjs): the forced cells as the released guide's own fill.sh prints them over the translation dc11498df37459ff… (all of the seat's roots in one cut). By AI agents, Wed Nov 11 2026. No macro, syntax, notation, axiom, sorry.
-/
import Derived.Test.YtbmkfaejleleiaaChecked
import GoSem.Claim
import GoSem.ClaimJoined
import GoSem.ClaimMapViews
import Derived.JoinedTies
import Derived.KernelRfl
namespace Go.Proofs.Ytbmkfaejleleiaa
/- THE CELL 'sum', in the pinned program and in every row, IS THE sha256 OF THE DUMP (.gsa) THAT YtbmkfaejleleiaaProg.lean LOADS. Nothing in Lean hashes anything: it is a label: what it is worth is what the hold of that sum in a sandbox is worth. -/
noncomputable def Try.pinned : Pinned := { name := "ytbmkfaejleleiaa", sum := "dc11498df37459ff0a0448dc3147c87cbb234ea62ec847896f3fc7e40e9936e3", checked := Try.checked }
namespace Rows
def none {H : Type} : Left H := { results := [], args := [] }

/-- 'laws.FnExactConstants': WHATEVER THE INPUT: true; the input reads as it did. -/
def fnExactConstantsSpec : ChangeSpec := { name := "fnExactConstants", fn := fun _ => fun
  | [] => { results := [.lit (.bool true)], args := [] }
  | _ => none }
def fnExactConstantsRow : OpenClaim := { program := "ytbmkfaejleleiaa", sum := "dc11498df37459ff0a0448dc3147c87cbb234ea62ec847896f3fc7e40e9936e3", func := "loop.example/g01919/laws.FnExactConstants", spec := "fnExactConstants", apart := false }
def FnExactConstantsSaid : Prop := fnExactConstantsRow.holds Try.pinned (OpenSpec.ofChange fnExactConstantsSpec)

/-- ITS FALSE NEIGHBOUR: 'it returns false'. Refute it at one input. -/
def fnExactConstantsWrong : ChangeSpec := { name := "fnExactConstants", fn := fun _ => fun
  | [] => { results := [.lit (.bool false)], args := [] }
  | _ => none }
def FnExactConstantsWrongFalsely : Prop := fnExactConstantsRow.holds Try.pinned (OpenSpec.ofChange fnExactConstantsWrong)

/-- 'laws.FnExactIsNull': WHATEVER THE INPUT: true; the input reads as it did. -/
def fnExactIsNullSpec : ChangeSpec := { name := "fnExactIsNull", fn := fun _ => fun
  | [d] => { results := [.lit (.bool true)], args := [d] }
  | _ => none }
def fnExactIsNullRow : OpenClaim := { program := "ytbmkfaejleleiaa", sum := "dc11498df37459ff0a0448dc3147c87cbb234ea62ec847896f3fc7e40e9936e3", func := "loop.example/g01919/laws.FnExactIsNull", spec := "fnExactIsNull", apart := false }
def FnExactIsNullSaid : Prop := fnExactIsNullRow.holds Try.pinned (OpenSpec.ofChange fnExactIsNullSpec)

/-- ITS FALSE NEIGHBOUR: 'it returns false'. Refute it at one input. -/
def fnExactIsNullWrong : ChangeSpec := { name := "fnExactIsNull", fn := fun _ => fun
  | [d] => { results := [.lit (.bool false)], args := [d] }
  | _ => none }
def FnExactIsNullWrongFalsely : Prop := fnExactIsNullRow.holds Try.pinned (OpenSpec.ofChange fnExactIsNullWrong)

/-- 'laws.FnExactNullValue': WHATEVER THE INPUT: true; the input reads as it did. -/
def fnExactNullValueSpec : ChangeSpec := { name := "fnExactNullValue", fn := fun _ => fun
  | [d] => { results := [.lit (.bool true)], args := [d] }
  | _ => none }
def fnExactNullValueRow : OpenClaim := { program := "ytbmkfaejleleiaa", sum := "dc11498df37459ff0a0448dc3147c87cbb234ea62ec847896f3fc7e40e9936e3", func := "loop.example/g01919/laws.FnExactNullValue", spec := "fnExactNullValue", apart := false }
def FnExactNullValueSaid : Prop := fnExactNullValueRow.holds Try.pinned (OpenSpec.ofChange fnExactNullValueSpec)

/-- ITS FALSE NEIGHBOUR: 'it returns false'. Refute it at one input. -/
def fnExactNullValueWrong : ChangeSpec := { name := "fnExactNullValue", fn := fun _ => fun
  | [d] => { results := [.lit (.bool false)], args := [d] }
  | _ => none }
def FnExactNullValueWrongFalsely : Prop := fnExactNullValueRow.holds Try.pinned (OpenSpec.ofChange fnExactNullValueWrong)

/-- 'laws.FnExactIsValidValue': WHATEVER THE INPUT: true; the input reads as it did. -/
def fnExactIsValidValueSpec : ChangeSpec := { name := "fnExactIsValidValue", fn := fun _ => fun
  | [d] => { results := [.lit (.bool true)], args := [d] }
  | _ => none }
def fnExactIsValidValueRow : OpenClaim := { program := "ytbmkfaejleleiaa", sum := "dc11498df37459ff0a0448dc3147c87cbb234ea62ec847896f3fc7e40e9936e3", func := "loop.example/g01919/laws.FnExactIsValidValue", spec := "fnExactIsValidValue", apart := false }
def FnExactIsValidValueSaid : Prop := fnExactIsValidValueRow.holds Try.pinned (OpenSpec.ofChange fnExactIsValidValueSpec)

/-- ITS FALSE NEIGHBOUR: 'it returns false'. Refute it at one input. -/
def fnExactIsValidValueWrong : ChangeSpec := { name := "fnExactIsValidValue", fn := fun _ => fun
  | [d] => { results := [.lit (.bool false)], args := [d] }
  | _ => none }
def FnExactIsValidValueWrongFalsely : Prop := fnExactIsValidValueRow.holds Try.pinned (OpenSpec.ofChange fnExactIsValidValueWrong)

/-- 'laws.FnExactNullNumber': WHATEVER THE INPUT: true; the input reads as it did. -/
def fnExactNullNumberSpec : ChangeSpec := { name := "fnExactNullNumber", fn := fun _ => fun
  | [d] => { results := [.lit (.bool true)], args := [d] }
  | _ => none }
def fnExactNullNumberRow : OpenClaim := { program := "ytbmkfaejleleiaa", sum := "dc11498df37459ff0a0448dc3147c87cbb234ea62ec847896f3fc7e40e9936e3", func := "loop.example/g01919/laws.FnExactNullNumber", spec := "fnExactNullNumber", apart := false }
def FnExactNullNumberSaid : Prop := fnExactNullNumberRow.holds Try.pinned (OpenSpec.ofChange fnExactNullNumberSpec)

/-- ITS FALSE NEIGHBOUR: 'it returns false'. Refute it at one input. -/
def fnExactNullNumberWrong : ChangeSpec := { name := "fnExactNullNumber", fn := fun _ => fun
  | [d] => { results := [.lit (.bool false)], args := [d] }
  | _ => none }
def FnExactNullNumberWrongFalsely : Prop := fnExactNullNumberRow.holds Try.pinned (OpenSpec.ofChange fnExactNullNumberWrong)

/-- 'laws.FnExactEncodeHex': WHATEVER THE INPUT: true; the input reads as it did. -/
def fnExactEncodeHexSpec : ChangeSpec := { name := "fnExactEncodeHex", fn := fun _ => fun
  | [d] => { results := [.lit (.bool true)], args := [d] }
  | _ => none }
def fnExactEncodeHexRow : OpenClaim := { program := "ytbmkfaejleleiaa", sum := "dc11498df37459ff0a0448dc3147c87cbb234ea62ec847896f3fc7e40e9936e3", func := "loop.example/g01919/laws.FnExactEncodeHex", spec := "fnExactEncodeHex", apart := false }
def FnExactEncodeHexSaid : Prop := fnExactEncodeHexRow.holds Try.pinned (OpenSpec.ofChange fnExactEncodeHexSpec)

/-- ITS FALSE NEIGHBOUR: 'it returns false'. Refute it at one input. -/
def fnExactEncodeHexWrong : ChangeSpec := { name := "fnExactEncodeHex", fn := fun _ => fun
  | [d] => { results := [.lit (.bool false)], args := [d] }
  | _ => none }
def FnExactEncodeHexWrongFalsely : Prop := fnExactEncodeHexRow.holds Try.pinned (OpenSpec.ofChange fnExactEncodeHexWrong)

/-- 'laws.FnExactDecodeFixed': WHATEVER THE INPUT: true; the input reads as it did. -/
def fnExactDecodeFixedSpec : ChangeSpec := { name := "fnExactDecodeFixed", fn := fun _ => fun
  | [d1, d2] => { results := [.lit (.bool true)], args := [d1, d2] }
  | _ => none }
def fnExactDecodeFixedRow : OpenClaim := { program := "ytbmkfaejleleiaa", sum := "dc11498df37459ff0a0448dc3147c87cbb234ea62ec847896f3fc7e40e9936e3", func := "loop.example/g01919/laws.FnExactDecodeFixed", spec := "fnExactDecodeFixed", apart := false }
def FnExactDecodeFixedSaid : Prop := fnExactDecodeFixedRow.holds Try.pinned (OpenSpec.ofChange fnExactDecodeFixedSpec)

/-- ITS FALSE NEIGHBOUR: 'it returns false'. Refute it at one input. -/
def fnExactDecodeFixedWrong : ChangeSpec := { name := "fnExactDecodeFixed", fn := fun _ => fun
  | [d1, d2] => { results := [.lit (.bool false)], args := [d1, d2] }
  | _ => none }
def FnExactDecodeFixedWrongFalsely : Prop := fnExactDecodeFixedRow.holds Try.pinned (OpenSpec.ofChange fnExactDecodeFixedWrong)

/-- 'laws.FnExactIsValidRelation': WHATEVER THE INPUT: true; the input reads as it did. -/
def fnExactIsValidRelationSpec : ChangeSpec := { name := "fnExactIsValidRelation", fn := fun _ => fun
  | [d] => { results := [.lit (.bool true)], args := [d] }
  | _ => none }
def fnExactIsValidRelationRow : OpenClaim := { program := "ytbmkfaejleleiaa", sum := "dc11498df37459ff0a0448dc3147c87cbb234ea62ec847896f3fc7e40e9936e3", func := "loop.example/g01919/laws.FnExactIsValidRelation", spec := "fnExactIsValidRelation", apart := false }
def FnExactIsValidRelationSaid : Prop := fnExactIsValidRelationRow.holds Try.pinned (OpenSpec.ofChange fnExactIsValidRelationSpec)

/-- ITS FALSE NEIGHBOUR: 'it returns false'. Refute it at one input. -/
def fnExactIsValidRelationWrong : ChangeSpec := { name := "fnExactIsValidRelation", fn := fun _ => fun
  | [d] => { results := [.lit (.bool false)], args := [d] }
  | _ => none }
def FnExactIsValidRelationWrongFalsely : Prop := fnExactIsValidRelationRow.holds Try.pinned (OpenSpec.ofChange fnExactIsValidRelationWrong)

/-- 'laws.FnExactEncodeVarint': WHATEVER THE INPUT: true; the input reads as it did. -/
def fnExactEncodeVarintSpec : ChangeSpec := { name := "fnExactEncodeVarint", fn := fun _ => fun
  | [d] => { results := [.lit (.bool true)], args := [d] }
  | _ => none }
def fnExactEncodeVarintRow : OpenClaim := { program := "ytbmkfaejleleiaa", sum := "dc11498df37459ff0a0448dc3147c87cbb234ea62ec847896f3fc7e40e9936e3", func := "loop.example/g01919/laws.FnExactEncodeVarint", spec := "fnExactEncodeVarint", apart := false }
def FnExactEncodeVarintSaid : Prop := fnExactEncodeVarintRow.holds Try.pinned (OpenSpec.ofChange fnExactEncodeVarintSpec)

/-- ITS FALSE NEIGHBOUR: 'it returns false'. Refute it at one input. -/
def fnExactEncodeVarintWrong : ChangeSpec := { name := "fnExactEncodeVarint", fn := fun _ => fun
  | [d] => { results := [.lit (.bool false)], args := [d] }
  | _ => none }
def FnExactEncodeVarintWrongFalsely : Prop := fnExactEncodeVarintRow.holds Try.pinned (OpenSpec.ofChange fnExactEncodeVarintWrong)

/-- 'laws.FnExactEncodeFixed': WHATEVER THE INPUT: true; the input reads as it did. -/
def fnExactEncodeFixedSpec : ChangeSpec := { name := "fnExactEncodeFixed", fn := fun _ => fun
  | [d1, d2] => { results := [.lit (.bool true)], args := [d1, d2] }
  | _ => none }
def fnExactEncodeFixedRow : OpenClaim := { program := "ytbmkfaejleleiaa", sum := "dc11498df37459ff0a0448dc3147c87cbb234ea62ec847896f3fc7e40e9936e3", func := "loop.example/g01919/laws.FnExactEncodeFixed", spec := "fnExactEncodeFixed", apart := false }
def FnExactEncodeFixedSaid : Prop := fnExactEncodeFixedRow.holds Try.pinned (OpenSpec.ofChange fnExactEncodeFixedSpec)

/-- ITS FALSE NEIGHBOUR: 'it returns false'. Refute it at one input. -/
def fnExactEncodeFixedWrong : ChangeSpec := { name := "fnExactEncodeFixed", fn := fun _ => fun
  | [d1, d2] => { results := [.lit (.bool false)], args := [d1, d2] }
  | _ => none }
def FnExactEncodeFixedWrongFalsely : Prop := fnExactEncodeFixedRow.holds Try.pinned (OpenSpec.ofChange fnExactEncodeFixedWrong)

/-- 'laws.FnExactDecodeVarint': WHATEVER THE INPUT: true; the input reads as it did. -/
def fnExactDecodeVarintSpec : ChangeSpec := { name := "fnExactDecodeVarint", fn := fun _ => fun
  | [d] => { results := [.lit (.bool true)], args := [d] }
  | _ => none }
def fnExactDecodeVarintRow : OpenClaim := { program := "ytbmkfaejleleiaa", sum := "dc11498df37459ff0a0448dc3147c87cbb234ea62ec847896f3fc7e40e9936e3", func := "loop.example/g01919/laws.FnExactDecodeVarint", spec := "fnExactDecodeVarint", apart := false }
def FnExactDecodeVarintSaid : Prop := fnExactDecodeVarintRow.holds Try.pinned (OpenSpec.ofChange fnExactDecodeVarintSpec)

/-- ITS FALSE NEIGHBOUR: 'it returns false'. Refute it at one input. -/
def fnExactDecodeVarintWrong : ChangeSpec := { name := "fnExactDecodeVarint", fn := fun _ => fun
  | [d] => { results := [.lit (.bool false)], args := [d] }
  | _ => none }
def FnExactDecodeVarintWrongFalsely : Prop := fnExactDecodeVarintRow.holds Try.pinned (OpenSpec.ofChange fnExactDecodeVarintWrong)

/- THE SECOND FORM. 'bulk': how many values and letters a reading holds, each counted each time it is reached (what is shared counts as often as it is met; a slice's spare places count too). A statement '..UptoSaid' is the law's where the arguments, and the package variables that the reading takes, are together of bulk at most 1048576: NARROWER than '..Said'. Prove '..Said' where nothing that the law and all that it calls make is longer than what came in: it says more and counts as full. Else prove '..UptoSaid'. A law counts once. -/
mutual
def uptoBulk {H : Type} : DataW H → Nat
  | .lit (.string bytes) => bytes.length + 1
  | .lit _ => 1
  | .nil => 1
  | .ptr d => uptoBulk d + 1
  | .slice elems spare => uptoBulkAll elems + uptoBulkAll spare + 1
  | .agg parts => uptoBulkAll parts + 1
  | .iface _ d => uptoBulk d + 1
  | .map entries => uptoBulkEntries entries + 1
  | .held _ => 1
def uptoBulkAll {H : Type} : List (DataW H) → Nat
  | [] => 0
  | d :: r => uptoBulk d + uptoBulkAll r
def uptoBulkEntries {H : Type} : List (Lit × DataW H) → Nat
  | [] => 0
  | x :: r => uptoBulkEntry x + uptoBulkEntries r
def uptoBulkEntry {H : Type} : Lit × DataW H → Nat
  | (.string bytes, d) => bytes.length + uptoBulk d + 1
  | (_, d) => uptoBulk d + 1
 end
def uptoSmall : (H : Type) → List (DataW H) → Bool := fun _ ds => decide (uptoBulkAll ds ≤ 1048576)
def OpenSpec.upto (s : _root_.Go.ChangeSpec) : _root_.Go.OpenSpec := { _root_.Go.OpenSpec.ofChange s with cond := some uptoSmall }

/-- 'laws.FnExactConstants', WHERE WHAT IT READS IS OF BULK AT MOST 1048576: true; the input reads as it did. -/
def fnExactConstantsUptoRow : OpenClaim := { program := "ytbmkfaejleleiaa", sum := "dc11498df37459ff0a0448dc3147c87cbb234ea62ec847896f3fc7e40e9936e3", func := "loop.example/g01919/laws.FnExactConstants", spec := "fnExactConstants", apart := false, narrowed := true }
def FnExactConstantsUptoSaid : Prop := fnExactConstantsUptoRow.holds Try.pinned (OpenSpec.upto fnExactConstantsSpec)

/-- 'laws.FnExactIsNull', WHERE WHAT IT READS IS OF BULK AT MOST 1048576: true; the input reads as it did. -/
def fnExactIsNullUptoRow : OpenClaim := { program := "ytbmkfaejleleiaa", sum := "dc11498df37459ff0a0448dc3147c87cbb234ea62ec847896f3fc7e40e9936e3", func := "loop.example/g01919/laws.FnExactIsNull", spec := "fnExactIsNull", apart := false, narrowed := true }
def FnExactIsNullUptoSaid : Prop := fnExactIsNullUptoRow.holds Try.pinned (OpenSpec.upto fnExactIsNullSpec)

/-- 'laws.FnExactNullValue', WHERE WHAT IT READS IS OF BULK AT MOST 1048576: true; the input reads as it did. -/
def fnExactNullValueUptoRow : OpenClaim := { program := "ytbmkfaejleleiaa", sum := "dc11498df37459ff0a0448dc3147c87cbb234ea62ec847896f3fc7e40e9936e3", func := "loop.example/g01919/laws.FnExactNullValue", spec := "fnExactNullValue", apart := false, narrowed := true }
def FnExactNullValueUptoSaid : Prop := fnExactNullValueUptoRow.holds Try.pinned (OpenSpec.upto fnExactNullValueSpec)

/-- 'laws.FnExactIsValidValue', WHERE WHAT IT READS IS OF BULK AT MOST 1048576: true; the input reads as it did. -/
def fnExactIsValidValueUptoRow : OpenClaim := { program := "ytbmkfaejleleiaa", sum := "dc11498df37459ff0a0448dc3147c87cbb234ea62ec847896f3fc7e40e9936e3", func := "loop.example/g01919/laws.FnExactIsValidValue", spec := "fnExactIsValidValue", apart := false, narrowed := true }
def FnExactIsValidValueUptoSaid : Prop := fnExactIsValidValueUptoRow.holds Try.pinned (OpenSpec.upto fnExactIsValidValueSpec)

/-- 'laws.FnExactNullNumber', WHERE WHAT IT READS IS OF BULK AT MOST 1048576: true; the input reads as it did. -/
def fnExactNullNumberUptoRow : OpenClaim := { program := "ytbmkfaejleleiaa", sum := "dc11498df37459ff0a0448dc3147c87cbb234ea62ec847896f3fc7e40e9936e3", func := "loop.example/g01919/laws.FnExactNullNumber", spec := "fnExactNullNumber", apart := false, narrowed := true }
def FnExactNullNumberUptoSaid : Prop := fnExactNullNumberUptoRow.holds Try.pinned (OpenSpec.upto fnExactNullNumberSpec)

/-- 'laws.FnExactEncodeHex', WHERE WHAT IT READS IS OF BULK AT MOST 1048576: true; the input reads as it did. -/
def fnExactEncodeHexUptoRow : OpenClaim := { program := "ytbmkfaejleleiaa", sum := "dc11498df37459ff0a0448dc3147c87cbb234ea62ec847896f3fc7e40e9936e3", func := "loop.example/g01919/laws.FnExactEncodeHex", spec := "fnExactEncodeHex", apart := false, narrowed := true }
def FnExactEncodeHexUptoSaid : Prop := fnExactEncodeHexUptoRow.holds Try.pinned (OpenSpec.upto fnExactEncodeHexSpec)

/-- 'laws.FnExactDecodeFixed', WHERE WHAT IT READS IS OF BULK AT MOST 1048576: true; the input reads as it did. -/
def fnExactDecodeFixedUptoRow : OpenClaim := { program := "ytbmkfaejleleiaa", sum := "dc11498df37459ff0a0448dc3147c87cbb234ea62ec847896f3fc7e40e9936e3", func := "loop.example/g01919/laws.FnExactDecodeFixed", spec := "fnExactDecodeFixed", apart := false, narrowed := true }
def FnExactDecodeFixedUptoSaid : Prop := fnExactDecodeFixedUptoRow.holds Try.pinned (OpenSpec.upto fnExactDecodeFixedSpec)

/-- 'laws.FnExactIsValidRelation', WHERE WHAT IT READS IS OF BULK AT MOST 1048576: true; the input reads as it did. -/
def fnExactIsValidRelationUptoRow : OpenClaim := { program := "ytbmkfaejleleiaa", sum := "dc11498df37459ff0a0448dc3147c87cbb234ea62ec847896f3fc7e40e9936e3", func := "loop.example/g01919/laws.FnExactIsValidRelation", spec := "fnExactIsValidRelation", apart := false, narrowed := true }
def FnExactIsValidRelationUptoSaid : Prop := fnExactIsValidRelationUptoRow.holds Try.pinned (OpenSpec.upto fnExactIsValidRelationSpec)

/-- 'laws.FnExactEncodeVarint', WHERE WHAT IT READS IS OF BULK AT MOST 1048576: true; the input reads as it did. -/
def fnExactEncodeVarintUptoRow : OpenClaim := { program := "ytbmkfaejleleiaa", sum := "dc11498df37459ff0a0448dc3147c87cbb234ea62ec847896f3fc7e40e9936e3", func := "loop.example/g01919/laws.FnExactEncodeVarint", spec := "fnExactEncodeVarint", apart := false, narrowed := true }
def FnExactEncodeVarintUptoSaid : Prop := fnExactEncodeVarintUptoRow.holds Try.pinned (OpenSpec.upto fnExactEncodeVarintSpec)

/-- 'laws.FnExactEncodeFixed', WHERE WHAT IT READS IS OF BULK AT MOST 1048576: true; the input reads as it did. -/
def fnExactEncodeFixedUptoRow : OpenClaim := { program := "ytbmkfaejleleiaa", sum := "dc11498df37459ff0a0448dc3147c87cbb234ea62ec847896f3fc7e40e9936e3", func := "loop.example/g01919/laws.FnExactEncodeFixed", spec := "fnExactEncodeFixed", apart := false, narrowed := true }
def FnExactEncodeFixedUptoSaid : Prop := fnExactEncodeFixedUptoRow.holds Try.pinned (OpenSpec.upto fnExactEncodeFixedSpec)

/-- 'laws.FnExactDecodeVarint', WHERE WHAT IT READS IS OF BULK AT MOST 1048576: true; the input reads as it did. -/
def fnExactDecodeVarintUptoRow : OpenClaim := { program := "ytbmkfaejleleiaa", sum := "dc11498df37459ff0a0448dc3147c87cbb234ea62ec847896f3fc7e40e9936e3", func := "loop.example/g01919/laws.FnExactDecodeVarint", spec := "fnExactDecodeVarint", apart := false, narrowed := true }
def FnExactDecodeVarintUptoSaid : Prop := fnExactDecodeVarintUptoRow.holds Try.pinned (OpenSpec.upto fnExactDecodeVarintSpec)

end Rows
end Go.Proofs.Ytbmkfaejleleiaa
