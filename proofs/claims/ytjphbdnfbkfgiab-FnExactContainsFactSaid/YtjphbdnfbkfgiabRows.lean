/-
  No cell of these rows narrows 'for every input' (looked for: loops, veiled, ifaces, maps, wideKeys, modest, calm, conditions, laid).
  DERIVED. THE GIVEN ROWS OF THIS SEAT. 3 by the template 'for every input the law returns true; each argument reads behind the call as it read before'; 0 by the template 'total and deterministic' (their statements: YtjphbdnfbkfgiabTotals.lean).
  GIVEN WITH THE SEED: the statements are not yours to turn. If you find one false, say at which input.
  Laid BY PROGRAM, IN A SANDBOX (cutbox-rows.mjs): the forced cells as the released guide's own fill.sh prints them over the translation 761532fd1302e857… (all of the seat's roots in one cut). By AI agents, Wed Nov 11 2026. No macro, syntax, notation, axiom, sorry.
-/
import Derived.Test.YtjphbdnfbkfgiabChecked
import GoSem.Claim
import GoSem.ClaimJoined
import GoSem.ClaimMapViews
import Derived.JoinedTies
import Derived.KernelRfl
namespace Go.Proofs.Ytjphbdnfbkfgiab
/- THE CELL 'sum', in the pinned program and in every row, IS THE sha256 OF THE DUMP (.gsa) THAT YtjphbdnfbkfgiabProg.lean LOADS. Nothing in Lean hashes anything: it is a label: what it is worth is what the hold of that sum in a sandbox is worth. -/
noncomputable def Try.pinned : Pinned := { name := "ytjphbdnfbkfgiab", sum := "761532fd1302e857d99bf6ec8c24767fef07054a07f46d55fddfaa60fb53c612", checked := Try.checked }
namespace Rows
def none {H : Type} : Left H := { results := [], args := [] }

/-- 'laws.FnExactNullsOfInstance': WHATEVER THE INPUT: true; the input reads as it did. -/
def fnExactNullsOfInstanceSpec : ChangeSpec := { name := "fnExactNullsOfInstance", fn := fun _ => fun
  | [d] => { results := [.lit (.bool true)], args := [d] }
  | _ => none }
def fnExactNullsOfInstanceRow : OpenClaim := { program := "ytjphbdnfbkfgiab", sum := "761532fd1302e857d99bf6ec8c24767fef07054a07f46d55fddfaa60fb53c612", func := "loop.example/g01919/laws.FnExactNullsOfInstance", spec := "fnExactNullsOfInstance", recurses := true, apart := false }
def FnExactNullsOfInstanceSaid : Prop := fnExactNullsOfInstanceRow.holds Try.pinned (OpenSpec.ofChange fnExactNullsOfInstanceSpec)

/-- ITS FALSE NEIGHBOUR: 'it returns false'. Refute it at one input. -/
def fnExactNullsOfInstanceWrong : ChangeSpec := { name := "fnExactNullsOfInstance", fn := fun _ => fun
  | [d] => { results := [.lit (.bool false)], args := [d] }
  | _ => none }
def FnExactNullsOfInstanceWrongFalsely : Prop := fnExactNullsOfInstanceRow.holds Try.pinned (OpenSpec.ofChange fnExactNullsOfInstanceWrong)

/-- 'laws.FnExactIsValidInstance': WHATEVER THE INPUT: true; the input reads as it did. -/
def fnExactIsValidInstanceSpec : ChangeSpec := { name := "fnExactIsValidInstance", fn := fun _ => fun
  | [d] => { results := [.lit (.bool true)], args := [d] }
  | _ => none }
def fnExactIsValidInstanceRow : OpenClaim := { program := "ytjphbdnfbkfgiab", sum := "761532fd1302e857d99bf6ec8c24767fef07054a07f46d55fddfaa60fb53c612", func := "loop.example/g01919/laws.FnExactIsValidInstance", spec := "fnExactIsValidInstance", unfollowed := true, recurses := true, apart := false }
def FnExactIsValidInstanceSaid : Prop := fnExactIsValidInstanceRow.holds Try.pinned (OpenSpec.ofChange fnExactIsValidInstanceSpec)

/-- ITS FALSE NEIGHBOUR: 'it returns false'. Refute it at one input. -/
def fnExactIsValidInstanceWrong : ChangeSpec := { name := "fnExactIsValidInstance", fn := fun _ => fun
  | [d] => { results := [.lit (.bool false)], args := [d] }
  | _ => none }
def FnExactIsValidInstanceWrongFalsely : Prop := fnExactIsValidInstanceRow.holds Try.pinned (OpenSpec.ofChange fnExactIsValidInstanceWrong)

/-- 'laws.FnExactContainsFact': WHATEVER THE INPUT: true; the input reads as it did. -/
def fnExactContainsFactSpec : ChangeSpec := { name := "fnExactContainsFact", fn := fun _ => fun
  | [d1, d2] => { results := [.lit (.bool true)], args := [d1, d2] }
  | _ => none }
def fnExactContainsFactRow : OpenClaim := { program := "ytjphbdnfbkfgiab", sum := "761532fd1302e857d99bf6ec8c24767fef07054a07f46d55fddfaa60fb53c612", func := "loop.example/g01919/laws.FnExactContainsFact", spec := "fnExactContainsFact", unfollowed := true, recurses := true, apart := false }
def FnExactContainsFactSaid : Prop := fnExactContainsFactRow.holds Try.pinned (OpenSpec.ofChange fnExactContainsFactSpec)

/-- ITS FALSE NEIGHBOUR: 'it returns false'. Refute it at one input. -/
def fnExactContainsFactWrong : ChangeSpec := { name := "fnExactContainsFact", fn := fun _ => fun
  | [d1, d2] => { results := [.lit (.bool false)], args := [d1, d2] }
  | _ => none }
def FnExactContainsFactWrongFalsely : Prop := fnExactContainsFactRow.holds Try.pinned (OpenSpec.ofChange fnExactContainsFactWrong)

/- THE SECOND FORM. 'bulk': how many values and letters a reading holds, each counted each time it is reached (what is shared counts as often as it is met; a slice's spare places count too). A statement '..UptoSaid' is the law's where the arguments, and the package variables that the reading takes, are together of bulk at most 1048576: NARROWER than '..Said'. Prove '..Said' where nothing that the law and all that it calls make is longer than what came in: it says more and counts as full. Else prove '..UptoSaid'. A law counts once. -/
mutual
def uptoBulk {H : Type} : DataW H → Nat
  | .lit (.string bytes) => bytes.length + 1
  | .lit _ => 1
  | .nil => 1
  | .ptr d => uptoBulk d + 1
  | .slice elems spare => uptoBulkAll elems + uptoBulkAll spare + 1
  | .agg parts => uptoBulkAll parts + 1
  | .iface _ d => uptoBulk d + 1
  | .map entries => uptoBulkEntries entries + 1
  | .held _ => 1
def uptoBulkAll {H : Type} : List (DataW H) → Nat
  | [] => 0
  | d :: r => uptoBulk d + uptoBulkAll r
def uptoBulkEntries {H : Type} : List (Lit × DataW H) → Nat
  | [] => 0
  | x :: r => uptoBulkEntry x + uptoBulkEntries r
def uptoBulkEntry {H : Type} : Lit × DataW H → Nat
  | (.string bytes, d) => bytes.length + uptoBulk d + 1
  | (_, d) => uptoBulk d + 1
 end
def uptoSmall : (H : Type) → List (DataW H) → Bool := fun _ ds => decide (uptoBulkAll ds ≤ 1048576)
def OpenSpec.upto (s : _root_.Go.ChangeSpec) : _root_.Go.OpenSpec := { _root_.Go.OpenSpec.ofChange s with cond := some uptoSmall }

/-- 'laws.FnExactNullsOfInstance', WHERE WHAT IT READS IS OF BULK AT MOST 1048576: true; the input reads as it did. -/
def fnExactNullsOfInstanceUptoRow : OpenClaim := { program := "ytjphbdnfbkfgiab", sum := "761532fd1302e857d99bf6ec8c24767fef07054a07f46d55fddfaa60fb53c612", func := "loop.example/g01919/laws.FnExactNullsOfInstance", spec := "fnExactNullsOfInstance", recurses := true, apart := false, narrowed := true }
def FnExactNullsOfInstanceUptoSaid : Prop := fnExactNullsOfInstanceUptoRow.holds Try.pinned (OpenSpec.upto fnExactNullsOfInstanceSpec)

/-- 'laws.FnExactIsValidInstance', WHERE WHAT IT READS IS OF BULK AT MOST 1048576: true; the input reads as it did. -/
def fnExactIsValidInstanceUptoRow : OpenClaim := { program := "ytjphbdnfbkfgiab", sum := "761532fd1302e857d99bf6ec8c24767fef07054a07f46d55fddfaa60fb53c612", func := "loop.example/g01919/laws.FnExactIsValidInstance", spec := "fnExactIsValidInstance", unfollowed := true, recurses := true, apart := false, narrowed := true }
def FnExactIsValidInstanceUptoSaid : Prop := fnExactIsValidInstanceUptoRow.holds Try.pinned (OpenSpec.upto fnExactIsValidInstanceSpec)

/-- 'laws.FnExactContainsFact', WHERE WHAT IT READS IS OF BULK AT MOST 1048576: true; the input reads as it did. -/
def fnExactContainsFactUptoRow : OpenClaim := { program := "ytjphbdnfbkfgiab", sum := "761532fd1302e857d99bf6ec8c24767fef07054a07f46d55fddfaa60fb53c612", func := "loop.example/g01919/laws.FnExactContainsFact", spec := "fnExactContainsFact", unfollowed := true, recurses := true, apart := false, narrowed := true }
def FnExactContainsFactUptoSaid : Prop := fnExactContainsFactUptoRow.holds Try.pinned (OpenSpec.upto fnExactContainsFactSpec)

end Rows
end Go.Proofs.Ytjphbdnfbkfgiab
