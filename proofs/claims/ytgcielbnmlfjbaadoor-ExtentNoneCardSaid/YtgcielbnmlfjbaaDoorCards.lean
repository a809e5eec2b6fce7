/-
  DERIVED. GIVEN WITH THE SEED: THE CARDS: each row of YtgcielbnmlfjbaaDoorRows.lean that lists a variable, with what it lists TIED to the program's text (the seventh form; the later family's looks); each row that meets fmt, with fmt's text TOLD by the authors' own Lean function (tested against real Go, not proved from fmt's source: count such statements apart). THE CARD IS WHAT COUNTS. Prove the row's statement (the work); the ties are given (YtgcielbnmlfjbaaDoorTie.lean); close each card by the builder's one call (the guide's Derived/Test/ToyasCard.lean, 'card_holds'). Laid BY PROGRAM, IN A SANDBOX (cutbox-door.mjs). By AI agents, Wed Nov 11 2026. No macro, syntax, notation, axiom, sorry.
-/
import Derived.Test.YtgcielbnmlfjbaaDoorRows
import GoSem.ClaimSeven
namespace Go.Proofs.YtgcielbnmlfjbaaDoor
namespace Rows

/-- THE TIED CARD OF 'incipitlaw07.ExtentRuns'. -/
def extentRunsCard : Claim7 := { stood := { row := extentRunsRow, standIns := [], harness := (true, "85e399bc9356e96930ff615ddc452e88ea659b8cdfb310e2ed5a0a77437345a5"), looks := false }, kinds := [], alts := [], laidByText := true, laidKinds := [.data], laidTests := true, laidLooks := .later }
def ExtentRunsCardSaid : Prop := Claim7.holds Tryd.pinned (.plain (OpenSpec.ofChange extentRunsSpec)) extentRunsCard

/-- THE TIED CARD OF 'incipitlaw07.ExtentFits'. -/
def extentFitsCard : Claim7 := { stood := { row := extentFitsRow, standIns := [], harness := (true, "85e399bc9356e96930ff615ddc452e88ea659b8cdfb310e2ed5a0a77437345a5"), looks := false }, kinds := [], alts := [], laidByText := true, laidKinds := [.data], laidTests := true, laidLooks := .later }
def ExtentFitsCardSaid : Prop := Claim7.holds Tryd.pinned (.plain (OpenSpec.ofChange extentFitsSpec)) extentFitsCard

/-- THE TIED CARD OF 'incipitlaw07.ExtentNot'. -/
def extentNotCard : Claim7 := { stood := { row := extentNotRow, standIns := [], harness := (true, "85e399bc9356e96930ff615ddc452e88ea659b8cdfb310e2ed5a0a77437345a5"), looks := false }, kinds := [], alts := [], laidByText := true, laidKinds := [.data], laidTests := true, laidLooks := .later }
def ExtentNotCardSaid : Prop := Claim7.holds Tryd.pinned (.plain (OpenSpec.ofChange extentNotSpec)) extentNotCard

/-- THE TIED CARD OF 'incipitlaw07.ExtentDoes'. -/
def extentDoesCard : Claim7 := { stood := { row := extentDoesRow, standIns := [], harness := (true, "85e399bc9356e96930ff615ddc452e88ea659b8cdfb310e2ed5a0a77437345a5"), looks := false }, kinds := [], alts := [], laidByText := true, laidKinds := [.data], laidTests := true, laidLooks := .later }
def ExtentDoesCardSaid : Prop := Claim7.holds Tryd.pinned (.plain (OpenSpec.ofChange extentDoesSpec)) extentDoesCard

/-- THE TIED CARD OF 'incipitlaw07.ExtentNone'. -/
def extentNoneCard : Claim7 := { stood := { row := extentNoneRow, standIns := [], harness := (true, "85e399bc9356e96930ff615ddc452e88ea659b8cdfb310e2ed5a0a77437345a5"), looks := false }, kinds := [], alts := [], laidByText := true, laidKinds := [.data], laidTests := true, laidLooks := .later }
def ExtentNoneCardSaid : Prop := Claim7.holds Tryd.pinned (.plain (OpenSpec.ofChange extentNoneSpec)) extentNoneCard

/-- THE SECOND FORM's CARD OF 'incipitlaw07.ExtentRuns'. -/
def extentRunsUptoCard : Claim7 := { stood := { row := extentRunsUptoRow, standIns := [], harness := (true, "85e399bc9356e96930ff615ddc452e88ea659b8cdfb310e2ed5a0a77437345a5"), looks := false }, kinds := [], alts := [], laidByText := true, laidKinds := [.data], laidTests := true, laidLooks := .later }
def ExtentRunsUptoCardSaid : Prop := Claim7.holds Tryd.pinned (.plain (OpenSpec.upto extentRunsSpec)) extentRunsUptoCard

/-- THE SECOND FORM's CARD OF 'incipitlaw07.ExtentFits'. -/
def extentFitsUptoCard : Claim7 := { stood := { row := extentFitsUptoRow, standIns := [], harness := (true, "85e399bc9356e96930ff615ddc452e88ea659b8cdfb310e2ed5a0a77437345a5"), looks := false }, kinds := [], alts := [], laidByText := true, laidKinds := [.data], laidTests := true, laidLooks := .later }
def ExtentFitsUptoCardSaid : Prop := Claim7.holds Tryd.pinned (.plain (OpenSpec.upto extentFitsSpec)) extentFitsUptoCard

/-- THE SECOND FORM's CARD OF 'incipitlaw07.ExtentNot'. -/
def extentNotUptoCard : Claim7 := { stood := { row := extentNotUptoRow, standIns := [], harness := (true, "85e399bc9356e96930ff615ddc452e88ea659b8cdfb310e2ed5a0a77437345a5"), looks := false }, kinds := [], alts := [], laidByText := true, laidKinds := [.data], laidTests := true, laidLooks := .later }
def ExtentNotUptoCardSaid : Prop := Claim7.holds Tryd.pinned (.plain (OpenSpec.upto extentNotSpec)) extentNotUptoCard

/-- THE SECOND FORM's CARD OF 'incipitlaw07.ExtentDoes'. -/
def extentDoesUptoCard : Claim7 := { stood := { row := extentDoesUptoRow, standIns := [], harness := (true, "85e399bc9356e96930ff615ddc452e88ea659b8cdfb310e2ed5a0a77437345a5"), looks := false }, kinds := [], alts := [], laidByText := true, laidKinds := [.data], laidTests := true, laidLooks := .later }
def ExtentDoesUptoCardSaid : Prop := Claim7.holds Tryd.pinned (.plain (OpenSpec.upto extentDoesSpec)) extentDoesUptoCard

/-- THE SECOND FORM's CARD OF 'incipitlaw07.ExtentNone'. -/
def extentNoneUptoCard : Claim7 := { stood := { row := extentNoneUptoRow, standIns := [], harness := (true, "85e399bc9356e96930ff615ddc452e88ea659b8cdfb310e2ed5a0a77437345a5"), looks := false }, kinds := [], alts := [], laidByText := true, laidKinds := [.data], laidTests := true, laidLooks := .later }
def ExtentNoneUptoCardSaid : Prop := Claim7.holds Tryd.pinned (.plain (OpenSpec.upto extentNoneSpec)) extentNoneUptoCard
end Rows
end Go.Proofs.YtgcielbnmlfjbaaDoor
