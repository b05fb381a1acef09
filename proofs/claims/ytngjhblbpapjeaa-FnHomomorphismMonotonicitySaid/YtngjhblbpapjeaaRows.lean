/-
  No cell of these rows narrows 'for every input' (looked for: loops, veiled, ifaces, maps, wideKeys, modest, calm, conditions, laid).
  DERIVED. THE GIVEN ROWS OF THIS SEAT. 9 by the template 'for every input the law returns true; each argument reads behind the call as it read before'; 0 by the template 'total and deterministic' (their statements: YtngjhblbpapjeaaTotals.lean).
  GIVEN WITH THE SEED: the statements are not yours to turn. If you find one false, say at which input.
  Laid BY PROGRAM, IN A SANDBOX (cutbox-rows.mjs): the forced cells as the released guide's own fill.sh prints them over the translation baf14f95faf2c57f… (all of the seat's roots in one cut). By AI agents, Wed Nov 11 2026. No macro, syntax, notation, axiom, sorry.
-/
import Derived.Test.YtngjhblbpapjeaaChecked
import GoSem.Claim
import GoSem.ClaimJoined
import GoSem.ClaimMapViews
import Derived.JoinedTies
import Derived.KernelRfl
namespace Go.Proofs.Ytngjhblbpapjeaa
/- THE CELL 'sum', in the pinned program and in every row, IS THE sha256 OF THE DUMP (.gsa) THAT YtngjhblbpapjeaaProg.lean LOADS. Nothing in Lean hashes anything: it is a label: what it is worth is what the hold of that sum in a sandbox is worth. -/
noncomputable def Try.pinned : Pinned := { name := "ytngjhblbpapjeaa", sum := "baf14f95faf2c57fdde66fb1dd4753633ed3ac92f4a336ec93ff14d9003747bc", checked := Try.checked }
namespace Rows
def none {H : Type} : Left H := { results := [], args := [] }

/-- 'laws.FnExactNullsOfInstance': WHATEVER THE INPUT: true; the input reads as it did. -/
def fnExactNullsOfInstanceSpec : ChangeSpec := { name := "fnExactNullsOfInstance", fn := fun _ => fun
  | [d] => { results := [.lit (.bool true)], args := [d] }
  | _ => none }
def fnExactNullsOfInstanceRow : OpenClaim := { program := "ytngjhblbpapjeaa", sum := "baf14f95faf2c57fdde66fb1dd4753633ed3ac92f4a336ec93ff14d9003747bc", func := "loop.example/g01919/laws.FnExactNullsOfInstance", spec := "fnExactNullsOfInstance", recurses := true, apart := false }
def FnExactNullsOfInstanceSaid : Prop := fnExactNullsOfInstanceRow.holds Try.pinned (OpenSpec.ofChange fnExactNullsOfInstanceSpec)

/-- ITS FALSE NEIGHBOUR: 'it returns false'. Refute it at one input. -/
def fnExactNullsOfInstanceWrong : ChangeSpec := { name := "fnExactNullsOfInstance", fn := fun _ => fun
  | [d] => { results := [.lit (.bool false)], args := [d] }
  | _ => none }
def FnExactNullsOfInstanceWrongFalsely : Prop := fnExactNullsOfInstanceRow.holds Try.pinned (OpenSpec.ofChange fnExactNullsOfInstanceWrong)

/-- 'laws.FnExactRestrict': WHATEVER THE INPUT: true; the input reads as it did. -/
def fnExactRestrictSpec : ChangeSpec := { name := "fnExactRestrict", fn := fun _ => fun
  | [d1, d2] => { results := [.lit (.bool true)], args := [d1, d2] }
  | _ => none }
def fnExactRestrictRow : OpenClaim := { program := "ytngjhblbpapjeaa", sum := "baf14f95faf2c57fdde66fb1dd4753633ed3ac92f4a336ec93ff14d9003747bc", func := "loop.example/g01919/laws.FnExactRestrict", spec := "fnExactRestrict", unfollowed := true, recurses := true, apart := false }
def FnExactRestrictSaid : Prop := fnExactRestrictRow.holds Try.pinned (OpenSpec.ofChange fnExactRestrictSpec)

/-- ITS FALSE NEIGHBOUR: 'it returns false'. Refute it at one input. -/
def fnExactRestrictWrong : ChangeSpec := { name := "fnExactRestrict", fn := fun _ => fun
  | [d1, d2] => { results := [.lit (.bool false)], args := [d1, d2] }
  | _ => none }
def FnExactRestrictWrongFalsely : Prop := fnExactRestrictRow.holds Try.pinned (OpenSpec.ofChange fnExactRestrictWrong)

/-- 'laws.FnExactIsHomomorphism': WHATEVER THE INPUT: true; the input reads as it did. -/
def fnExactIsHomomorphismSpec : ChangeSpec := { name := "fnExactIsHomomorphism", fn := fun _ => fun
  | [d1, d2, d3] => { results := [.lit (.bool true)], args := [d1, d2, d3] }
  | _ => none }
def fnExactIsHomomorphismRow : OpenClaim := { program := "ytngjhblbpapjeaa", sum := "baf14f95faf2c57fdde66fb1dd4753633ed3ac92f4a336ec93ff14d9003747bc", func := "loop.example/g01919/laws.FnExactIsHomomorphism", spec := "fnExactIsHomomorphism", unfollowed := true, recurses := true, apart := false }
def FnExactIsHomomorphismSaid : Prop := fnExactIsHomomorphismRow.holds Try.pinned (OpenSpec.ofChange fnExactIsHomomorphismSpec)

/-- ITS FALSE NEIGHBOUR: 'it returns false'. Refute it at one input. -/
def fnExactIsHomomorphismWrong : ChangeSpec := { name := "fnExactIsHomomorphism", fn := fun _ => fun
  | [d1, d2, d3] => { results := [.lit (.bool false)], args := [d1, d2, d3] }
  | _ => none }
def FnExactIsHomomorphismWrongFalsely : Prop := fnExactIsHomomorphismRow.holds Try.pinned (OpenSpec.ofChange fnExactIsHomomorphismWrong)

/-- 'laws.FnExactHasHomomorphism': WHATEVER THE INPUT: true; the input reads as it did. -/
def fnExactHasHomomorphismSpec : ChangeSpec := { name := "fnExactHasHomomorphism", fn := fun _ => fun
  | [d1, d2] => { results := [.lit (.bool true)], args := [d1, d2] }
  | _ => none }
def fnExactHasHomomorphismRow : OpenClaim := { program := "ytngjhblbpapjeaa", sum := "baf14f95faf2c57fdde66fb1dd4753633ed3ac92f4a336ec93ff14d9003747bc", func := "loop.example/g01919/laws.FnExactHasHomomorphism", spec := "fnExactHasHomomorphism", inPlace := ["maps.clone"], unfollowed := true, recurses := true, apart := false }
def FnExactHasHomomorphismSaid : Prop := fnExactHasHomomorphismRow.holds Try.pinned (OpenSpec.ofChange fnExactHasHomomorphismSpec)

/-- ITS FALSE NEIGHBOUR: 'it returns false'. Refute it at one input. -/
def fnExactHasHomomorphismWrong : ChangeSpec := { name := "fnExactHasHomomorphism", fn := fun _ => fun
  | [d1, d2] => { results := [.lit (.bool false)], args := [d1, d2] }
  | _ => none }
def FnExactHasHomomorphismWrongFalsely : Prop := fnExactHasHomomorphismRow.holds Try.pinned (OpenSpec.ofChange fnExactHasHomomorphismWrong)

/-- 'laws.FnExactDeleteFact': WHATEVER THE INPUT: true; the input reads as it did. -/
def fnExactDeleteFactSpec : ChangeSpec := { name := "fnExactDeleteFact", fn := fun _ => fun
  | [d1, d2] => { results := [.lit (.bool true)], args := [d1, d2] }
  | _ => none }
def fnExactDeleteFactRow : OpenClaim := { program := "ytngjhblbpapjeaa", sum := "baf14f95faf2c57fdde66fb1dd4753633ed3ac92f4a336ec93ff14d9003747bc", func := "loop.example/g01919/laws.FnExactDeleteFact", spec := "fnExactDeleteFact", unfollowed := true, recurses := true, apart := false }
def FnExactDeleteFactSaid : Prop := fnExactDeleteFactRow.holds Try.pinned (OpenSpec.ofChange fnExactDeleteFactSpec)

/-- ITS FALSE NEIGHBOUR: 'it returns false'. Refute it at one input. -/
def fnExactDeleteFactWrong : ChangeSpec := { name := "fnExactDeleteFact", fn := fun _ => fun
  | [d1, d2] => { results := [.lit (.bool false)], args := [d1, d2] }
  | _ => none }
def FnExactDeleteFactWrongFalsely : Prop := fnExactDeleteFactRow.holds Try.pinned (OpenSpec.ofChange fnExactDeleteFactWrong)

/-- 'laws.FnExactAreHomEquivalent': WHATEVER THE INPUT: true; the input reads as it did. -/
def fnExactAreHomEquivalentSpec : ChangeSpec := { name := "fnExactAreHomEquivalent", fn := fun _ => fun
  | [d1, d2] => { results := [.lit (.bool true)], args := [d1, d2] }
  | _ => none }
def fnExactAreHomEquivalentRow : OpenClaim := { program := "ytngjhblbpapjeaa", sum := "baf14f95faf2c57fdde66fb1dd4753633ed3ac92f4a336ec93ff14d9003747bc", func := "loop.example/g01919/laws.FnExactAreHomEquivalent", spec := "fnExactAreHomEquivalent", inPlace := ["maps.clone"], unfollowed := true, recurses := true, apart := false }
def FnExactAreHomEquivalentSaid : Prop := fnExactAreHomEquivalentRow.holds Try.pinned (OpenSpec.ofChange fnExactAreHomEquivalentSpec)

/-- ITS FALSE NEIGHBOUR: 'it returns false'. Refute it at one input. -/
def fnExactAreHomEquivalentWrong : ChangeSpec := { name := "fnExactAreHomEquivalent", fn := fun _ => fun
  | [d1, d2] => { results := [.lit (.bool false)], args := [d1, d2] }
  | _ => none }
def FnExactAreHomEquivalentWrongFalsely : Prop := fnExactAreHomEquivalentRow.holds Try.pinned (OpenSpec.ofChange fnExactAreHomEquivalentWrong)

/-- 'laws.FnHomomorphismMonotonicity': WHATEVER THE INPUT: true; the input reads as it did. -/
def fnHomomorphismMonotonicitySpec : ChangeSpec := { name := "fnHomomorphismMonotonicity", fn := fun _ => fun
  | [d] => { results := [.lit (.bool true)], args := [d] }
  | _ => none }
def fnHomomorphismMonotonicityRow : OpenClaim := { program := "ytngjhblbpapjeaa", sum := "baf14f95faf2c57fdde66fb1dd4753633ed3ac92f4a336ec93ff14d9003747bc", func := "loop.example/g01919/laws.FnHomomorphismMonotonicity", spec := "fnHomomorphismMonotonicity", inPlace := ["maps.clone"], unfollowed := true, recurses := true, apart := false }
def FnHomomorphismMonotonicitySaid : Prop := fnHomomorphismMonotonicityRow.holds Try.pinned (OpenSpec.ofChange fnHomomorphismMonotonicitySpec)

/-- ITS FALSE NEIGHBOUR: 'it returns false'. Refute it at one input. -/
def fnHomomorphismMonotonicityWrong : ChangeSpec := { name := "fnHomomorphismMonotonicity", fn := fun _ => fun
  | [d] => { results := [.lit (.bool false)], args := [d] }
  | _ => none }
def FnHomomorphismMonotonicityWrongFalsely : Prop := fnHomomorphismMonotonicityRow.holds Try.pinned (OpenSpec.ofChange fnHomomorphismMonotonicityWrong)

/-- 'laws.FnExactFindHomomorphism': WHATEVER THE INPUT: true; the input reads as it did. -/
def fnExactFindHomomorphismSpec : ChangeSpec := { name := "fnExactFindHomomorphism", fn := fun _ => fun
  | [d1, d2] => { results := [.lit (.bool true)], args := [d1, d2] }
  | _ => none }
def fnExactFindHomomorphismRow : OpenClaim := { program := "ytngjhblbpapjeaa", sum := "baf14f95faf2c57fdde66fb1dd4753633ed3ac92f4a336ec93ff14d9003747bc", func := "loop.example/g01919/laws.FnExactFindHomomorphism", spec := "fnExactFindHomomorphism", inPlace := ["maps.clone"], unfollowed := true, recurses := true, apart := false }
def FnExactFindHomomorphismSaid : Prop := fnExactFindHomomorphismRow.holds Try.pinned (OpenSpec.ofChange fnExactFindHomomorphismSpec)

/-- ITS FALSE NEIGHBOUR: 'it returns false'. Refute it at one input. -/
def fnExactFindHomomorphismWrong : ChangeSpec := { name := "fnExactFindHomomorphism", fn := fun _ => fun
  | [d1, d2] => { results := [.lit (.bool false)], args := [d1, d2] }
  | _ => none }
def FnExactFindHomomorphismWrongFalsely : Prop := fnExactFindHomomorphismRow.holds Try.pinned (OpenSpec.ofChange fnExactFindHomomorphismWrong)

/-- 'laws.FnExactFindHomomorphisms': WHATEVER THE INPUT: true; the input reads as it did. -/
def fnExactFindHomomorphismsSpec : ChangeSpec := { name := "fnExactFindHomomorphisms", fn := fun _ => fun
  | [d1, d2] => { results := [.lit (.bool true)], args := [d1, d2] }
  | _ => none }
def fnExactFindHomomorphismsRow : OpenClaim := { program := "ytngjhblbpapjeaa", sum := "baf14f95faf2c57fdde66fb1dd4753633ed3ac92f4a336ec93ff14d9003747bc", func := "loop.example/g01919/laws.FnExactFindHomomorphisms", spec := "fnExactFindHomomorphisms", inPlace := ["maps.clone"], unfollowed := true, recurses := true, apart := false }
def FnExactFindHomomorphismsSaid : Prop := fnExactFindHomomorphismsRow.holds Try.pinned (OpenSpec.ofChange fnExactFindHomomorphismsSpec)

/-- ITS FALSE NEIGHBOUR: 'it returns false'. Refute it at one input. -/
def fnExactFindHomomorphismsWrong : ChangeSpec := { name := "fnExactFindHomomorphisms", fn := fun _ => fun
  | [d1, d2] => { results := [.lit (.bool false)], args := [d1, d2] }
  | _ => none }
def FnExactFindHomomorphismsWrongFalsely : Prop := fnExactFindHomomorphismsRow.holds Try.pinned (OpenSpec.ofChange fnExactFindHomomorphismsWrong)

/- THE SECOND FORM. 'bulk': how many values and letters a reading holds, each counted each time it is reached (what is shared counts as often as it is met; a slice's spare places count too). A statement '..UptoSaid' is the law's where the arguments, and the package variables that the reading takes, are together of bulk at most 1048576: NARROWER than '..Said'. Prove '..Said' where nothing that the law and all that it calls make is longer than what came in: it says more and counts as full. Else prove '..UptoSaid'. A law counts once. -/
mutual
def uptoBulk {H : Type} : DataW H → Nat
  | .lit (.string bytes) => bytes.length + 1
  | .lit _ => 1
  | .nil => 1
  | .ptr d => uptoBulk d + 1
  | .slice elems spare => uptoBulkAll elems + uptoBulkAll spare + 1
  | .agg parts => uptoBulkAll parts + 1
  | .iface _ d => uptoBulk d + 1
  | .map entries => uptoBulkEntries entries + 1
  | .held _ => 1
def uptoBulkAll {H : Type} : List (DataW H) → Nat
  | [] => 0
  | d :: r => uptoBulk d + uptoBulkAll r
def uptoBulkEntries {H : Type} : List (Lit × DataW H) → Nat
  | [] => 0
  | x :: r => uptoBulkEntry x + uptoBulkEntries r
def uptoBulkEntry {H : Type} : Lit × DataW H → Nat
  | (.string bytes, d) => bytes.length + uptoBulk d + 1
  | (_, d) => uptoBulk d + 1
 end
def uptoSmall : (H : Type) → List (DataW H) → Bool := fun _ ds => decide (uptoBulkAll ds ≤ 1048576)
def OpenSpec.upto (s : _root_.Go.ChangeSpec) : _root_.Go.OpenSpec := { _root_.Go.OpenSpec.ofChange s with cond := some uptoSmall }

/-- 'laws.FnExactNullsOfInstance', WHERE WHAT IT READS IS OF BULK AT MOST 1048576: true; the input reads as it did. -/
def fnExactNullsOfInstanceUptoRow : OpenClaim := { program := "ytngjhblbpapjeaa", sum := "baf14f95faf2c57fdde66fb1dd4753633ed3ac92f4a336ec93ff14d9003747bc", func := "loop.example/g01919/laws.FnExactNullsOfInstance", spec := "fnExactNullsOfInstance", recurses := true, apart := false, narrowed := true }
def FnExactNullsOfInstanceUptoSaid : Prop := fnExactNullsOfInstanceUptoRow.holds Try.pinned (OpenSpec.upto fnExactNullsOfInstanceSpec)

/-- 'laws.FnExactRestrict', WHERE WHAT IT READS IS OF BULK AT MOST 1048576: true; the input reads as it did. -/
def fnExactRestrictUptoRow : OpenClaim := { program := "ytngjhblbpapjeaa", sum := "baf14f95faf2c57fdde66fb1dd4753633ed3ac92f4a336ec93ff14d9003747bc", func := "loop.example/g01919/laws.FnExactRestrict", spec := "fnExactRestrict", unfollowed := true, recurses := true, apart := false, narrowed := true }
def FnExactRestrictUptoSaid : Prop := fnExactRestrictUptoRow.holds Try.pinned (OpenSpec.upto fnExactRestrictSpec)

/-- 'laws.FnExactIsHomomorphism', WHERE WHAT IT READS IS OF BULK AT MOST 1048576: true; the input reads as it did. -/
def fnExactIsHomomorphismUptoRow : OpenClaim := { program := "ytngjhblbpapjeaa", sum := "baf14f95faf2c57fdde66fb1dd4753633ed3ac92f4a336ec93ff14d9003747bc", func := "loop.example/g01919/laws.FnExactIsHomomorphism", spec := "fnExactIsHomomorphism", unfollowed := true, recurses := true, apart := false, narrowed := true }
def FnExactIsHomomorphismUptoSaid : Prop := fnExactIsHomomorphismUptoRow.holds Try.pinned (OpenSpec.upto fnExactIsHomomorphismSpec)

/-- 'laws.FnExactHasHomomorphism', WHERE WHAT IT READS IS OF BULK AT MOST 1048576: true; the input reads as it did. -/
def fnExactHasHomomorphismUptoRow : OpenClaim := { program := "ytngjhblbpapjeaa", sum := "baf14f95faf2c57fdde66fb1dd4753633ed3ac92f4a336ec93ff14d9003747bc", func := "loop.example/g01919/laws.FnExactHasHomomorphism", spec := "fnExactHasHomomorphism", inPlace := ["maps.clone"], unfollowed := true, recurses := true, apart := false, narrowed := true }
def FnExactHasHomomorphismUptoSaid : Prop := fnExactHasHomomorphismUptoRow.holds Try.pinned (OpenSpec.upto fnExactHasHomomorphismSpec)

/-- 'laws.FnExactDeleteFact', WHERE WHAT IT READS IS OF BULK AT MOST 1048576: true; the input reads as it did. -/
def fnExactDeleteFactUptoRow : OpenClaim := { program := "ytngjhblbpapjeaa", sum := "baf14f95faf2c57fdde66fb1dd4753633ed3ac92f4a336ec93ff14d9003747bc", func := "loop.example/g01919/laws.FnExactDeleteFact", spec := "fnExactDeleteFact", unfollowed := true, recurses := true, apart := false, narrowed := true }
def FnExactDeleteFactUptoSaid : Prop := fnExactDeleteFactUptoRow.holds Try.pinned (OpenSpec.upto fnExactDeleteFactSpec)

/-- 'laws.FnExactAreHomEquivalent', WHERE WHAT IT READS IS OF BULK AT MOST 1048576: true; the input reads as it did. -/
def fnExactAreHomEquivalentUptoRow : OpenClaim := { program := "ytngjhblbpapjeaa", sum := "baf14f95faf2c57fdde66fb1dd4753633ed3ac92f4a336ec93ff14d9003747bc", func := "loop.example/g01919/laws.FnExactAreHomEquivalent", spec := "fnExactAreHomEquivalent", inPlace := ["maps.clone"], unfollowed := true, recurses := true, apart := false, narrowed := true }
def FnExactAreHomEquivalentUptoSaid : Prop := fnExactAreHomEquivalentUptoRow.holds Try.pinned (OpenSpec.upto fnExactAreHomEquivalentSpec)

/-- 'laws.FnHomomorphismMonotonicity', WHERE WHAT IT READS IS OF BULK AT MOST 1048576: true; the input reads as it did. -/
def fnHomomorphismMonotonicityUptoRow : OpenClaim := { program := "ytngjhblbpapjeaa", sum := "baf14f95faf2c57fdde66fb1dd4753633ed3ac92f4a336ec93ff14d9003747bc", func := "loop.example/g01919/laws.FnHomomorphismMonotonicity", spec := "fnHomomorphismMonotonicity", inPlace := ["maps.clone"], unfollowed := true, recurses := true, apart := false, narrowed := true }
def FnHomomorphismMonotonicityUptoSaid : Prop := fnHomomorphismMonotonicityUptoRow.holds Try.pinned (OpenSpec.upto fnHomomorphismMonotonicitySpec)

/-- 'laws.FnExactFindHomomorphism', WHERE WHAT IT READS IS OF BULK AT MOST 1048576: true; the input reads as it did. -/
def fnExactFindHomomorphismUptoRow : OpenClaim := { program := "ytngjhblbpapjeaa", sum := "baf14f95faf2c57fdde66fb1dd4753633ed3ac92f4a336ec93ff14d9003747bc", func := "loop.example/g01919/laws.FnExactFindHomomorphism", spec := "fnExactFindHomomorphism", inPlace := ["maps.clone"], unfollowed := true, recurses := true, apart := false, narrowed := true }
def FnExactFindHomomorphismUptoSaid : Prop := fnExactFindHomomorphismUptoRow.holds Try.pinned (OpenSpec.upto fnExactFindHomomorphismSpec)

/-- 'laws.FnExactFindHomomorphisms', WHERE WHAT IT READS IS OF BULK AT MOST 1048576: true; the input reads as it did. -/
def fnExactFindHomomorphismsUptoRow : OpenClaim := { program := "ytngjhblbpapjeaa", sum := "baf14f95faf2c57fdde66fb1dd4753633ed3ac92f4a336ec93ff14d9003747bc", func := "loop.example/g01919/laws.FnExactFindHomomorphisms", spec := "fnExactFindHomomorphisms", inPlace := ["maps.clone"], unfollowed := true, recurses := true, apart := false, narrowed := true }
def FnExactFindHomomorphismsUptoSaid : Prop := fnExactFindHomomorphismsUptoRow.holds Try.pinned (OpenSpec.upto fnExactFindHomomorphismsSpec)

end Rows
end Go.Proofs.Ytngjhblbpapjeaa
