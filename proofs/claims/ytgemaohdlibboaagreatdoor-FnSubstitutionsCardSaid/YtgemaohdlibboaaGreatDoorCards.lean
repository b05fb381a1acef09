/-
  DERIVED. GIVEN WITH THE SEED: THE CARDS: each row of YtgemaohdlibboaaGreatDoorRows.lean that lists a variable, with what it lists TIED to the program's text (the seventh form; the later family's looks); each row that meets fmt, with fmt's text TOLD by the authors' own Lean function (tested against real Go, not proved from fmt's source: count such statements apart). THE CARD IS WHAT COUNTS. Prove the row's statement (the work); the ties are given (YtgemaohdlibboaaGreatDoorTie.lean); close each card by the builder's one call (the guide's Derived/Test/ToyasCard.lean, 'card_holds'). Laid BY PROGRAM, IN A SANDBOX (cutbox-door.mjs). By AI agents, Wed Nov 11 2026. No macro, syntax, notation, axiom, sorry.
-/
import Derived.Test.YtgemaohdlibboaaGreatDoorRows
import GoSem.ClaimSeven
namespace Go.Proofs.YtgemaohdlibboaaGreatDoor
namespace Rows

/-- THE TIED CARD OF 'laws.FnExactParseInstance'. -/
def fnExactParseInstanceCard : Claim7 := { stood := { row := fnExactParseInstanceRow, standIns := [], harness := (true, "dc1de6cb6101ba91d5b3804275bb4544a9359f74ad7bb1fc4658567c599cb05b"), looks := false }, kinds := [], alts := [], laidByText := true, laidKinds := [.data, .data, .data, .data, .pinned], laidTests := true, laidLooks := .later }
def FnExactParseInstanceCardSaid : Prop := Claim7.holds Tryz.pinned (.plain (OpenSpec.ofChange fnExactParseInstanceSpec)) fnExactParseInstanceCard

/-- THE TIED CARD OF 'laws.FnInstanceFormat'. -/
def fnInstanceFormatCard : Claim7 := { stood := { row := fnInstanceFormatRow, standIns := [], harness := (true, "dc1de6cb6101ba91d5b3804275bb4544a9359f74ad7bb1fc4658567c599cb05b"), looks := false }, kinds := [], alts := [], laidByText := true, laidKinds := [.data, .data, .data, .data, .pinned], laidTests := true, laidLooks := .later }
def FnInstanceFormatCardSaid : Prop := Claim7.holds Tryz.pinned (.plain (OpenSpec.ofChange fnInstanceFormatSpec)) fnInstanceFormatCard

/-- THE TIED CARD OF 'laws.FnSubstitutions'. -/
def fnSubstitutionsCard : Claim7 := { stood := { row := fnSubstitutionsRow, standIns := [], harness := (true, "dc1de6cb6101ba91d5b3804275bb4544a9359f74ad7bb1fc4658567c599cb05b"), looks := false }, kinds := [], alts := [], laidByText := true, laidKinds := [.data, .data, .data], laidTests := true, laidLooks := .later }
def FnSubstitutionsCardSaid : Prop := Claim7.holds Tryz.pinned (.plain (OpenSpec.ofChange fnSubstitutionsSpec)) fnSubstitutionsCard

/-- THE TIED CARD OF 'laws.FnRelationAndFactFormat'. -/
def fnRelationAndFactFormatCard : Claim7 := { stood := { row := fnRelationAndFactFormatRow, standIns := [], harness := (true, "dc1de6cb6101ba91d5b3804275bb4544a9359f74ad7bb1fc4658567c599cb05b"), looks := false }, kinds := [], alts := [], laidByText := true, laidKinds := [.data, .data, .data, .data, .pinned], laidTests := true, laidLooks := .later }
def FnRelationAndFactFormatCardSaid : Prop := Claim7.holds Tryz.pinned (.plain (OpenSpec.ofChange fnRelationAndFactFormatSpec)) fnRelationAndFactFormatCard

/-- THE TIED CARD OF 'laws.FnExactFormatInstance'. -/
def fnExactFormatInstanceCard : Claim7 := { stood := { row := fnExactFormatInstanceRow, standIns := [], harness := (true, "dc1de6cb6101ba91d5b3804275bb4544a9359f74ad7bb1fc4658567c599cb05b"), looks := false }, kinds := [], alts := [], laidByText := true, laidKinds := [.data, .data, .data], laidTests := true, laidLooks := .later }
def FnExactFormatInstanceCardSaid : Prop := Claim7.holds Tryz.pinned (.plain (OpenSpec.ofChange fnExactFormatInstanceSpec)) fnExactFormatInstanceCard

/-- THE SECOND FORM's CARD OF 'laws.FnExactParseInstance'. -/
def fnExactParseInstanceUptoCard : Claim7 := { stood := { row := fnExactParseInstanceUptoRow, standIns := [], harness := (true, "dc1de6cb6101ba91d5b3804275bb4544a9359f74ad7bb1fc4658567c599cb05b"), looks := false }, kinds := [], alts := [], laidByText := true, laidKinds := [.data, .data, .data, .data, .pinned], laidTests := true, laidLooks := .later }
def FnExactParseInstanceUptoCardSaid : Prop := Claim7.holds Tryz.pinned (.plain (OpenSpec.upto fnExactParseInstanceSpec)) fnExactParseInstanceUptoCard

/-- THE SECOND FORM's CARD OF 'laws.FnInstanceFormat'. -/
def fnInstanceFormatUptoCard : Claim7 := { stood := { row := fnInstanceFormatUptoRow, standIns := [], harness := (true, "dc1de6cb6101ba91d5b3804275bb4544a9359f74ad7bb1fc4658567c599cb05b"), looks := false }, kinds := [], alts := [], laidByText := true, laidKinds := [.data, .data, .data, .data, .pinned], laidTests := true, laidLooks := .later }
def FnInstanceFormatUptoCardSaid : Prop := Claim7.holds Tryz.pinned (.plain (OpenSpec.upto fnInstanceFormatSpec)) fnInstanceFormatUptoCard

/-- THE SECOND FORM's CARD OF 'laws.FnSubstitutions'. -/
def fnSubstitutionsUptoCard : Claim7 := { stood := { row := fnSubstitutionsUptoRow, standIns := [], harness := (true, "dc1de6cb6101ba91d5b3804275bb4544a9359f74ad7bb1fc4658567c599cb05b"), looks := false }, kinds := [], alts := [], laidByText := true, laidKinds := [.data, .data, .data], laidTests := true, laidLooks := .later }
def FnSubstitutionsUptoCardSaid : Prop := Claim7.holds Tryz.pinned (.plain (OpenSpec.upto fnSubstitutionsSpec)) fnSubstitutionsUptoCard

/-- THE SECOND FORM's CARD OF 'laws.FnRelationAndFactFormat'. -/
def fnRelationAndFactFormatUptoCard : Claim7 := { stood := { row := fnRelationAndFactFormatUptoRow, standIns := [], harness := (true, "dc1de6cb6101ba91d5b3804275bb4544a9359f74ad7bb1fc4658567c599cb05b"), looks := false }, kinds := [], alts := [], laidByText := true, laidKinds := [.data, .data, .data, .data, .pinned], laidTests := true, laidLooks := .later }
def FnRelationAndFactFormatUptoCardSaid : Prop := Claim7.holds Tryz.pinned (.plain (OpenSpec.upto fnRelationAndFactFormatSpec)) fnRelationAndFactFormatUptoCard

/-- THE SECOND FORM's CARD OF 'laws.FnExactFormatInstance'. -/
def fnExactFormatInstanceUptoCard : Claim7 := { stood := { row := fnExactFormatInstanceUptoRow, standIns := [], harness := (true, "dc1de6cb6101ba91d5b3804275bb4544a9359f74ad7bb1fc4658567c599cb05b"), looks := false }, kinds := [], alts := [], laidByText := true, laidKinds := [.data, .data, .data], laidTests := true, laidLooks := .later }
def FnExactFormatInstanceUptoCardSaid : Prop := Claim7.holds Tryz.pinned (.plain (OpenSpec.upto fnExactFormatInstanceSpec)) fnExactFormatInstanceUptoCard
end Rows
end Go.Proofs.YtgemaohdlibboaaGreatDoor
