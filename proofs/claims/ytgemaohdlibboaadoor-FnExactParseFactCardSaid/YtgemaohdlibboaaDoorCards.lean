/-
  DERIVED. GIVEN WITH THE SEED: THE CARDS: each row of YtgemaohdlibboaaDoorRows.lean that lists a variable, with what it lists TIED to the program's text (the seventh form; the later family's looks); each row that meets fmt, with fmt's text TOLD by the authors' own Lean function (tested against real Go, not proved from fmt's source: count such statements apart). THE CARD IS WHAT COUNTS. Prove the row's statement (the work); the ties are given (YtgemaohdlibboaaDoorTie.lean); close each card by the builder's one call (the guide's Derived/Test/ToyasCard.lean, 'card_holds'). Laid BY PROGRAM, IN A SANDBOX (cutbox-door.mjs). By AI agents, Wed Nov 11 2026. No macro, syntax, notation, axiom, sorry.
-/
import Derived.Test.YtgemaohdlibboaaDoorRows
import GoSem.ClaimSeven
namespace Go.Proofs.YtgemaohdlibboaaDoor
namespace Rows

/-- THE TIED CARD OF 'laws.FnExactParseRelations'. -/
def fnExactParseRelationsCard : Claim7 := { stood := { row := fnExactParseRelationsRow, standIns := [], harness := (true, "2f33ef1663c87cf0e09e8ce66a7e046e2ec5bf7ac89826bf536255ce649c69de"), looks := false }, kinds := [], alts := [], laidByText := true, laidKinds := [.data, .data, .data, .data, .pinned], laidTests := true, laidLooks := .later }
def FnExactParseRelationsCardSaid : Prop := Claim7.holds Tryd.pinned (.plain (OpenSpec.ofChange fnExactParseRelationsSpec)) fnExactParseRelationsCard

/-- THE TIED CARD OF 'laws.FnExactParseFact'. -/
def fnExactParseFactCard : Claim7 := { stood := { row := fnExactParseFactRow, standIns := [], harness := (true, "2f33ef1663c87cf0e09e8ce66a7e046e2ec5bf7ac89826bf536255ce649c69de"), looks := false }, kinds := [], alts := [], laidByText := true, laidKinds := [.data, .data, .data, .data, .pinned], laidTests := true, laidLooks := .later }
def FnExactParseFactCardSaid : Prop := Claim7.holds Tryd.pinned (.plain (OpenSpec.ofChange fnExactParseFactSpec)) fnExactParseFactCard

/-- THE SECOND FORM's CARD OF 'laws.FnExactParseRelations'. -/
def fnExactParseRelationsUptoCard : Claim7 := { stood := { row := fnExactParseRelationsUptoRow, standIns := [], harness := (true, "2f33ef1663c87cf0e09e8ce66a7e046e2ec5bf7ac89826bf536255ce649c69de"), looks := false }, kinds := [], alts := [], laidByText := true, laidKinds := [.data, .data, .data, .data, .pinned], laidTests := true, laidLooks := .later }
def FnExactParseRelationsUptoCardSaid : Prop := Claim7.holds Tryd.pinned (.plain (OpenSpec.upto fnExactParseRelationsSpec)) fnExactParseRelationsUptoCard

/-- THE SECOND FORM's CARD OF 'laws.FnExactParseFact'. -/
def fnExactParseFactUptoCard : Claim7 := { stood := { row := fnExactParseFactUptoRow, standIns := [], harness := (true, "2f33ef1663c87cf0e09e8ce66a7e046e2ec5bf7ac89826bf536255ce649c69de"), looks := false }, kinds := [], alts := [], laidByText := true, laidKinds := [.data, .data, .data, .data, .pinned], laidTests := true, laidLooks := .later }
def FnExactParseFactUptoCardSaid : Prop := Claim7.holds Tryd.pinned (.plain (OpenSpec.upto fnExactParseFactSpec)) fnExactParseFactUptoCard
end Rows
end Go.Proofs.YtgemaohdlibboaaDoor
