/-
  DERIVED. GIVEN WITH THE SEED: THE CARDS: each row of YtjphbdnfbkfgiaaDoorRows.lean that lists a variable, with what it lists TIED to the program's text (the seventh form; the later family's looks); each row that meets fmt, with fmt's text TOLD by the authors' own Lean function (tested against real Go, not proved from fmt's source: count such statements apart). THE CARD IS WHAT COUNTS. Prove the row's statement (the work); the ties are given (YtjphbdnfbkfgiaaDoorTie.lean); close each card by the builder's one call (the guide's Derived/Test/ToyasCard.lean, 'card_holds'). Laid BY PROGRAM, IN A SANDBOX (cutbox-door.mjs). By AI agents, Wed Nov 11 2026. No macro, syntax, notation, axiom, sorry.
-/
import Derived.Test.YtjphbdnfbkfgiaaDoorRows
import GoSem.ClaimSeven
namespace Go.Proofs.YtjphbdnfbkfgiaaDoor
namespace Rows

/-- THE TIED CARD OF 'laws.FnExactFormatValue'. -/
def fnExactFormatValueCard : Claim7 := { stood := { row := fnExactFormatValueRow, standIns := [], harness := (true, "ed3b5d39a418ee095380b782ab711b61115f063468ff210a054f0d9283b69324"), looks := false }, kinds := [], alts := [], laidByText := true, laidKinds := [.data, .data, .data], laidTests := true, laidLooks := .later }
def FnExactFormatValueCardSaid : Prop := Claim7.holds Tryd.pinned (.plain (OpenSpec.ofChange fnExactFormatValueSpec)) fnExactFormatValueCard

/-- THE TIED CARD OF 'laws.FnExactParseInt'. -/
def fnExactParseIntCard : Claim7 := { stood := { row := fnExactParseIntRow, standIns := [], harness := (true, "ed3b5d39a418ee095380b782ab711b61115f063468ff210a054f0d9283b69324"), looks := false }, kinds := [], alts := [], laidByText := true, laidKinds := [.data, .data, .data], laidTests := true, laidLooks := .later }
def FnExactParseIntCardSaid : Prop := Claim7.holds Tryd.pinned (.plain (OpenSpec.ofChange fnExactParseIntSpec)) fnExactParseIntCard

/-- THE TIED CARD OF 'laws.FnExactParseValue'. -/
def fnExactParseValueCard : Claim7 := { stood := { row := fnExactParseValueRow, standIns := [], harness := (true, "ed3b5d39a418ee095380b782ab711b61115f063468ff210a054f0d9283b69324"), looks := false }, kinds := [], alts := [], laidByText := true, laidKinds := [.data, .data, .data], laidTests := true, laidLooks := .later }
def FnExactParseValueCardSaid : Prop := Claim7.holds Tryd.pinned (.plain (OpenSpec.ofChange fnExactParseValueSpec)) fnExactParseValueCard

/-- THE TIED CARD OF 'laws.FnValueFormat'. -/
def fnValueFormatCard : Claim7 := { stood := { row := fnValueFormatRow, standIns := [], harness := (true, "ed3b5d39a418ee095380b782ab711b61115f063468ff210a054f0d9283b69324"), looks := false }, kinds := [], alts := [], laidByText := true, laidKinds := [.data, .data, .data], laidTests := true, laidLooks := .later }
def FnValueFormatCardSaid : Prop := Claim7.holds Tryd.pinned (.plain (OpenSpec.ofChange fnValueFormatSpec)) fnValueFormatCard

/-- THE TIED CARD OF 'laws.FnEncodings'. -/
def fnEncodingsCard : Claim7 := { stood := { row := fnEncodingsRow, standIns := [], harness := (true, "ed3b5d39a418ee095380b782ab711b61115f063468ff210a054f0d9283b69324"), looks := false }, kinds := [], alts := [], laidByText := true, laidKinds := [.data, .data, .data], laidTests := true, laidLooks := .later }
def FnEncodingsCardSaid : Prop := Claim7.holds Tryd.pinned (.plain (OpenSpec.ofChange fnEncodingsSpec)) fnEncodingsCard

/-- THE TIED CARD OF 'laws.FnExactFormatRelations'. -/
def fnExactFormatRelationsCard : Claim7 := { stood := { row := fnExactFormatRelationsRow, standIns := [], harness := (true, "ed3b5d39a418ee095380b782ab711b61115f063468ff210a054f0d9283b69324"), looks := false }, kinds := [], alts := [], laidByText := true, laidKinds := [.data, .data, .data], laidTests := true, laidLooks := .later }
def FnExactFormatRelationsCardSaid : Prop := Claim7.holds Tryd.pinned (.plain (OpenSpec.ofChange fnExactFormatRelationsSpec)) fnExactFormatRelationsCard

/-- THE TIED CARD OF 'laws.FnExactFormatSubstitution'. -/
def fnExactFormatSubstitutionCard : Claim7 := { stood := { row := fnExactFormatSubstitutionRow, standIns := [], harness := (true, "ed3b5d39a418ee095380b782ab711b61115f063468ff210a054f0d9283b69324"), looks := false }, kinds := [], alts := [], laidByText := true, laidKinds := [.data, .data, .data], laidTests := true, laidLooks := .later }
def FnExactFormatSubstitutionCardSaid : Prop := Claim7.holds Tryd.pinned (.plain (OpenSpec.ofChange fnExactFormatSubstitutionSpec)) fnExactFormatSubstitutionCard

/-- THE TIED CARD OF 'laws.FnExactFormatFact'. -/
def fnExactFormatFactCard : Claim7 := { stood := { row := fnExactFormatFactRow, standIns := [], harness := (true, "ed3b5d39a418ee095380b782ab711b61115f063468ff210a054f0d9283b69324"), looks := false }, kinds := [], alts := [], laidByText := true, laidKinds := [.data, .data, .data], laidTests := true, laidLooks := .later }
def FnExactFormatFactCardSaid : Prop := Claim7.holds Tryd.pinned (.plain (OpenSpec.ofChange fnExactFormatFactSpec)) fnExactFormatFactCard

/-- THE SECOND FORM's CARD OF 'laws.FnExactFormatValue'. -/
def fnExactFormatValueUptoCard : Claim7 := { stood := { row := fnExactFormatValueUptoRow, standIns := [], harness := (true, "ed3b5d39a418ee095380b782ab711b61115f063468ff210a054f0d9283b69324"), looks := false }, kinds := [], alts := [], laidByText := true, laidKinds := [.data, .data, .data], laidTests := true, laidLooks := .later }
def FnExactFormatValueUptoCardSaid : Prop := Claim7.holds Tryd.pinned (.plain (OpenSpec.upto fnExactFormatValueSpec)) fnExactFormatValueUptoCard

/-- THE SECOND FORM's CARD OF 'laws.FnExactParseInt'. -/
def fnExactParseIntUptoCard : Claim7 := { stood := { row := fnExactParseIntUptoRow, standIns := [], harness := (true, "ed3b5d39a418ee095380b782ab711b61115f063468ff210a054f0d9283b69324"), looks := false }, kinds := [], alts := [], laidByText := true, laidKinds := [.data, .data, .data], laidTests := true, laidLooks := .later }
def FnExactParseIntUptoCardSaid : Prop := Claim7.holds Tryd.pinned (.plain (OpenSpec.upto fnExactParseIntSpec)) fnExactParseIntUptoCard

/-- THE SECOND FORM's CARD OF 'laws.FnExactParseValue'. -/
def fnExactParseValueUptoCard : Claim7 := { stood := { row := fnExactParseValueUptoRow, standIns := [], harness := (true, "ed3b5d39a418ee095380b782ab711b61115f063468ff210a054f0d9283b69324"), looks := false }, kinds := [], alts := [], laidByText := true, laidKinds := [.data, .data, .data], laidTests := true, laidLooks := .later }
def FnExactParseValueUptoCardSaid : Prop := Claim7.holds Tryd.pinned (.plain (OpenSpec.upto fnExactParseValueSpec)) fnExactParseValueUptoCard

/-- THE SECOND FORM's CARD OF 'laws.FnValueFormat'. -/
def fnValueFormatUptoCard : Claim7 := { stood := { row := fnValueFormatUptoRow, standIns := [], harness := (true, "ed3b5d39a418ee095380b782ab711b61115f063468ff210a054f0d9283b69324"), looks := false }, kinds := [], alts := [], laidByText := true, laidKinds := [.data, .data, .data], laidTests := true, laidLooks := .later }
def FnValueFormatUptoCardSaid : Prop := Claim7.holds Tryd.pinned (.plain (OpenSpec.upto fnValueFormatSpec)) fnValueFormatUptoCard

/-- THE SECOND FORM's CARD OF 'laws.FnEncodings'. -/
def fnEncodingsUptoCard : Claim7 := { stood := { row := fnEncodingsUptoRow, standIns := [], harness := (true, "ed3b5d39a418ee095380b782ab711b61115f063468ff210a054f0d9283b69324"), looks := false }, kinds := [], alts := [], laidByText := true, laidKinds := [.data, .data, .data], laidTests := true, laidLooks := .later }
def FnEncodingsUptoCardSaid : Prop := Claim7.holds Tryd.pinned (.plain (OpenSpec.upto fnEncodingsSpec)) fnEncodingsUptoCard

/-- THE SECOND FORM's CARD OF 'laws.FnExactFormatRelations'. -/
def fnExactFormatRelationsUptoCard : Claim7 := { stood := { row := fnExactFormatRelationsUptoRow, standIns := [], harness := (true, "ed3b5d39a418ee095380b782ab711b61115f063468ff210a054f0d9283b69324"), looks := false }, kinds := [], alts := [], laidByText := true, laidKinds := [.data, .data, .data], laidTests := true, laidLooks := .later }
def FnExactFormatRelationsUptoCardSaid : Prop := Claim7.holds Tryd.pinned (.plain (OpenSpec.upto fnExactFormatRelationsSpec)) fnExactFormatRelationsUptoCard

/-- THE SECOND FORM's CARD OF 'laws.FnExactFormatSubstitution'. -/
def fnExactFormatSubstitutionUptoCard : Claim7 := { stood := { row := fnExactFormatSubstitutionUptoRow, standIns := [], harness := (true, "ed3b5d39a418ee095380b782ab711b61115f063468ff210a054f0d9283b69324"), looks := false }, kinds := [], alts := [], laidByText := true, laidKinds := [.data, .data, .data], laidTests := true, laidLooks := .later }
def FnExactFormatSubstitutionUptoCardSaid : Prop := Claim7.holds Tryd.pinned (.plain (OpenSpec.upto fnExactFormatSubstitutionSpec)) fnExactFormatSubstitutionUptoCard

/-- THE SECOND FORM's CARD OF 'laws.FnExactFormatFact'. -/
def fnExactFormatFactUptoCard : Claim7 := { stood := { row := fnExactFormatFactUptoRow, standIns := [], harness := (true, "ed3b5d39a418ee095380b782ab711b61115f063468ff210a054f0d9283b69324"), looks := false }, kinds := [], alts := [], laidByText := true, laidKinds := [.data, .data, .data], laidTests := true, laidLooks := .later }
def FnExactFormatFactUptoCardSaid : Prop := Claim7.holds Tryd.pinned (.plain (OpenSpec.upto fnExactFormatFactSpec)) fnExactFormatFactUptoCard
end Rows
end Go.Proofs.YtjphbdnfbkfgiaaDoor
