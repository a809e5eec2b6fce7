/-
  DERIVED. GIVEN WITH THE SEED: THE CARDS: each row of YtclnddebhjjpfaaDoorRows.lean that lists a variable, with what it lists TIED to the program's text (the seventh form; the later family's looks); each row that meets fmt, with fmt's text TOLD by the authors' own Lean function (tested against real Go, not proved from fmt's source: count such statements apart). THE CARD IS WHAT COUNTS. Prove the row's statement (the work); the ties are given (YtclnddebhjjpfaaDoorTie.lean); close each card by the builder's one call (the guide's Derived/Test/ToyasCard.lean, 'card_holds'). Laid BY PROGRAM, IN A SANDBOX (cutbox-door.mjs). By AI agents, Wed Nov 11 2026. No macro, syntax, notation, axiom, sorry.
-/
import Derived.Test.YtclnddebhjjpfaaDoorRows
import GoSem.ClaimSeven
namespace Go.Proofs.YtclnddebhjjpfaaDoor
namespace Rows

/-- THE TIED CARD OF 'incipitlaw06.HeadChooses'. -/
def headChoosesCard : Claim7 := { stood := { row := headChoosesRow, standIns := [], harness := (true, "17decc210ad5e0ac3b203bf3b7e0953658b7bfb04dc4c5df98f52c216562629a"), looks := false }, kinds := [], alts := [], laidByText := true, laidKinds := [.data], laidTests := true, laidLooks := .later }
def HeadChoosesCardSaid : Prop := Claim7.holds Tryd.pinned (.plain (OpenSpec.ofChange headChoosesSpec)) headChoosesCard

/-- THE TIED CARD OF 'incipitlaw06.HeadGets'. -/
def headGetsCard : Claim7 := { stood := { row := headGetsRow, standIns := [], harness := (true, "17decc210ad5e0ac3b203bf3b7e0953658b7bfb04dc4c5df98f52c216562629a"), looks := false }, kinds := [], alts := [], laidByText := true, laidKinds := [.data], laidTests := true, laidLooks := .later }
def HeadGetsCardSaid : Prop := Claim7.holds Tryd.pinned (.plain (OpenSpec.ofChange headGetsSpec)) headGetsCard

/-- THE TIED CARD OF 'incipitlaw06.HeadPuts'. -/
def headPutsCard : Claim7 := { stood := { row := headPutsRow, standIns := [], harness := (true, "17decc210ad5e0ac3b203bf3b7e0953658b7bfb04dc4c5df98f52c216562629a"), looks := false }, kinds := [], alts := [], laidByText := true, laidKinds := [.data], laidTests := true, laidLooks := .later }
def HeadPutsCardSaid : Prop := Claim7.holds Tryd.pinned (.plain (OpenSpec.ofChange headPutsSpec)) headPutsCard

/-- THE TIED CARD OF 'incipitlaw06.HeadBack'. -/
def headBackCard : Claim7 := { stood := { row := headBackRow, standIns := [], harness := (true, "17decc210ad5e0ac3b203bf3b7e0953658b7bfb04dc4c5df98f52c216562629a"), looks := false }, kinds := [], alts := [], laidByText := true, laidKinds := [.data], laidTests := true, laidLooks := .later }
def HeadBackCardSaid : Prop := Claim7.holds Tryd.pinned (.plain (OpenSpec.ofChange headBackSpec)) headBackCard

/-- THE TIED CARD OF 'incipitlaw06.HeadNewer'. -/
def headNewerCard : Claim7 := { stood := { row := headNewerRow, standIns := [], harness := (true, "17decc210ad5e0ac3b203bf3b7e0953658b7bfb04dc4c5df98f52c216562629a"), looks := false }, kinds := [], alts := [], laidByText := true, laidKinds := [.data], laidTests := true, laidLooks := .later }
def HeadNewerCardSaid : Prop := Claim7.holds Tryd.pinned (.plain (OpenSpec.ofChange headNewerSpec)) headNewerCard

/-- THE TIED CARD OF 'incipitlaw06.HeadSector'. -/
def headSectorCard : Claim7 := { stood := { row := headSectorRow, standIns := [], harness := (true, "17decc210ad5e0ac3b203bf3b7e0953658b7bfb04dc4c5df98f52c216562629a"), looks := false }, kinds := [], alts := [], laidByText := true, laidKinds := [.data, .data, .pinned], laidTests := true, laidLooks := .later }
def HeadSectorCardSaid : Prop := Claim7.holds Tryd.pinned (.plain (OpenSpec.ofChange headSectorSpec)) headSectorCard

/-- THE SECOND FORM's CARD OF 'incipitlaw06.HeadChooses'. -/
def headChoosesUptoCard : Claim7 := { stood := { row := headChoosesUptoRow, standIns := [], harness := (true, "17decc210ad5e0ac3b203bf3b7e0953658b7bfb04dc4c5df98f52c216562629a"), looks := false }, kinds := [], alts := [], laidByText := true, laidKinds := [.data], laidTests := true, laidLooks := .later }
def HeadChoosesUptoCardSaid : Prop := Claim7.holds Tryd.pinned (.plain (OpenSpec.upto headChoosesSpec)) headChoosesUptoCard

/-- THE SECOND FORM's CARD OF 'incipitlaw06.HeadGets'. -/
def headGetsUptoCard : Claim7 := { stood := { row := headGetsUptoRow, standIns := [], harness := (true, "17decc210ad5e0ac3b203bf3b7e0953658b7bfb04dc4c5df98f52c216562629a"), looks := false }, kinds := [], alts := [], laidByText := true, laidKinds := [.data], laidTests := true, laidLooks := .later }
def HeadGetsUptoCardSaid : Prop := Claim7.holds Tryd.pinned (.plain (OpenSpec.upto headGetsSpec)) headGetsUptoCard

/-- THE SECOND FORM's CARD OF 'incipitlaw06.HeadPuts'. -/
def headPutsUptoCard : Claim7 := { stood := { row := headPutsUptoRow, standIns := [], harness := (true, "17decc210ad5e0ac3b203bf3b7e0953658b7bfb04dc4c5df98f52c216562629a"), looks := false }, kinds := [], alts := [], laidByText := true, laidKinds := [.data], laidTests := true, laidLooks := .later }
def HeadPutsUptoCardSaid : Prop := Claim7.holds Tryd.pinned (.plain (OpenSpec.upto headPutsSpec)) headPutsUptoCard

/-- THE SECOND FORM's CARD OF 'incipitlaw06.HeadBack'. -/
def headBackUptoCard : Claim7 := { stood := { row := headBackUptoRow, standIns := [], harness := (true, "17decc210ad5e0ac3b203bf3b7e0953658b7bfb04dc4c5df98f52c216562629a"), looks := false }, kinds := [], alts := [], laidByText := true, laidKinds := [.data], laidTests := true, laidLooks := .later }
def HeadBackUptoCardSaid : Prop := Claim7.holds Tryd.pinned (.plain (OpenSpec.upto headBackSpec)) headBackUptoCard

/-- THE SECOND FORM's CARD OF 'incipitlaw06.HeadNewer'. -/
def headNewerUptoCard : Claim7 := { stood := { row := headNewerUptoRow, standIns := [], harness := (true, "17decc210ad5e0ac3b203bf3b7e0953658b7bfb04dc4c5df98f52c216562629a"), looks := false }, kinds := [], alts := [], laidByText := true, laidKinds := [.data], laidTests := true, laidLooks := .later }
def HeadNewerUptoCardSaid : Prop := Claim7.holds Tryd.pinned (.plain (OpenSpec.upto headNewerSpec)) headNewerUptoCard

/-- THE SECOND FORM's CARD OF 'incipitlaw06.HeadSector'. -/
def headSectorUptoCard : Claim7 := { stood := { row := headSectorUptoRow, standIns := [], harness := (true, "17decc210ad5e0ac3b203bf3b7e0953658b7bfb04dc4c5df98f52c216562629a"), looks := false }, kinds := [], alts := [], laidByText := true, laidKinds := [.data, .data, .pinned], laidTests := true, laidLooks := .later }
def HeadSectorUptoCardSaid : Prop := Claim7.holds Tryd.pinned (.plain (OpenSpec.upto headSectorSpec)) headSectorUptoCard
end Rows
end Go.Proofs.YtclnddebhjjpfaaDoor
