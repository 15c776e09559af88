/-
  DERIVED. GIVEN WITH THE SEED: THE CARDS: each row of YtphjmbaifkneiaaGreatDoorRows.lean that lists a variable, with what it lists TIED to the program's text (the seventh form; the later family's looks); each row that meets fmt, with fmt's text TOLD by the authors' own Lean function (tested against real Go, not proved from fmt's source: count such statements apart). THE CARD IS WHAT COUNTS. Prove the row's statement (the work); the ties are given (YtphjmbaifkneiaaGreatDoorTie.lean); close each card by the builder's one call (the guide's Derived/Test/ToyasCard.lean, 'card_holds'). Laid BY PROGRAM, IN A SANDBOX (cutbox-door.mjs). By AI agents, Wed Nov 11 2026. No macro, syntax, notation, axiom, sorry.
-/
import Derived.Test.YtphjmbaifkneiaaGreatDoorRows
import GoSem.ClaimSeven
namespace Go.Proofs.YtphjmbaifkneiaaGreatDoor
namespace Rows

/-- THE TIED CARD OF 'tabularlaw18.AreasShared'. -/
def areasSharedCard : Claim7 := { stood := { row := areasSharedRow, standIns := [], harness := (true, "3b13de15d49800339eb686c1c23e683fd8ac6a3d85d2608b6dd886a6a7d761b7"), looks := true }, kinds := [], alts := [], laidByText := true, laidKinds := [.data, .data, .pinned], laidTests := true, laidLooks := .later }
def AreasSharedCardSaid : Prop := Claim7.holds Tryz.pinned (.plain (OpenSpec.ofChange areasSharedSpec)) areasSharedCard

/-- THE TIED CARD OF 'tabularlaw18.AreasBetween'. -/
def areasBetweenCard : Claim7 := { stood := { row := areasBetweenRow, standIns := [], harness := (true, "3b13de15d49800339eb686c1c23e683fd8ac6a3d85d2608b6dd886a6a7d761b7"), looks := true }, kinds := [], alts := [], laidByText := true, laidKinds := [.data, .data, .pinned], laidTests := true, laidLooks := .later }
def AreasBetweenCardSaid : Prop := Claim7.holds Tryz.pinned (.plain (OpenSpec.ofChange areasBetweenSpec)) areasBetweenCard

/-- THE TIED CARD OF 'tabularlaw18.AreasFinds'. -/
def areasFindsCard : Claim7 := { stood := { row := areasFindsRow, standIns := [], harness := (true, "3b13de15d49800339eb686c1c23e683fd8ac6a3d85d2608b6dd886a6a7d761b7"), looks := true }, kinds := [], alts := [], laidByText := true, laidKinds := [.data, .data, .pinned], laidTests := true, laidLooks := .later }
def AreasFindsCardSaid : Prop := Claim7.holds Tryz.pinned (.plain (OpenSpec.ofChange areasFindsSpec)) areasFindsCard

/-- THE TIED CARD OF 'tabularlaw18.AreasSplit'. -/
def areasSplitCard : Claim7 := { stood := { row := areasSplitRow, standIns := [], harness := (true, "3b13de15d49800339eb686c1c23e683fd8ac6a3d85d2608b6dd886a6a7d761b7"), looks := true }, kinds := [], alts := [], laidByText := true, laidKinds := [.data, .data, .data, .data, .data, .pinned], laidTests := true, laidLooks := .later }
def AreasSplitCardSaid : Prop := Claim7.holds Tryz.pinned (.plain (OpenSpec.ofChange areasSplitSpec)) areasSplitCard

/-- THE SECOND FORM's CARD OF 'tabularlaw18.AreasShared'. -/
def areasSharedUptoCard : Claim7 := { stood := { row := areasSharedUptoRow, standIns := [], harness := (true, "3b13de15d49800339eb686c1c23e683fd8ac6a3d85d2608b6dd886a6a7d761b7"), looks := true }, kinds := [], alts := [], laidByText := true, laidKinds := [.data, .data, .pinned], laidTests := true, laidLooks := .later }
def AreasSharedUptoCardSaid : Prop := Claim7.holds Tryz.pinned (.plain (OpenSpec.upto areasSharedSpec)) areasSharedUptoCard

/-- THE SECOND FORM's CARD OF 'tabularlaw18.AreasBetween'. -/
def areasBetweenUptoCard : Claim7 := { stood := { row := areasBetweenUptoRow, standIns := [], harness := (true, "3b13de15d49800339eb686c1c23e683fd8ac6a3d85d2608b6dd886a6a7d761b7"), looks := true }, kinds := [], alts := [], laidByText := true, laidKinds := [.data, .data, .pinned], laidTests := true, laidLooks := .later }
def AreasBetweenUptoCardSaid : Prop := Claim7.holds Tryz.pinned (.plain (OpenSpec.upto areasBetweenSpec)) areasBetweenUptoCard

/-- THE SECOND FORM's CARD OF 'tabularlaw18.AreasFinds'. -/
def areasFindsUptoCard : Claim7 := { stood := { row := areasFindsUptoRow, standIns := [], harness := (true, "3b13de15d49800339eb686c1c23e683fd8ac6a3d85d2608b6dd886a6a7d761b7"), looks := true }, kinds := [], alts := [], laidByText := true, laidKinds := [.data, .data, .pinned], laidTests := true, laidLooks := .later }
def AreasFindsUptoCardSaid : Prop := Claim7.holds Tryz.pinned (.plain (OpenSpec.upto areasFindsSpec)) areasFindsUptoCard

/-- THE SECOND FORM's CARD OF 'tabularlaw18.AreasSplit'. -/
def areasSplitUptoCard : Claim7 := { stood := { row := areasSplitUptoRow, standIns := [], harness := (true, "3b13de15d49800339eb686c1c23e683fd8ac6a3d85d2608b6dd886a6a7d761b7"), looks := true }, kinds := [], alts := [], laidByText := true, laidKinds := [.data, .data, .data, .data, .data, .pinned], laidTests := true, laidLooks := .later }
def AreasSplitUptoCardSaid : Prop := Claim7.holds Tryz.pinned (.plain (OpenSpec.upto areasSplitSpec)) areasSplitUptoCard
end Rows
end Go.Proofs.YtphjmbaifkneiaaGreatDoor
