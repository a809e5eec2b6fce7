/-
  DERIVED. GIVEN WITH THE SEED: THE CARDS: each row of YtofhmhbffdoiaaaDoorRows.lean that lists a variable, with what it lists TIED to the program's text (the seventh form; the later family's looks); each row that meets fmt, with fmt's text TOLD by the authors' own Lean function (tested against real Go, not proved from fmt's source: count such statements apart). THE CARD IS WHAT COUNTS. Prove the row's statement (the work); the ties are given (YtofhmhbffdoiaaaDoorTie.lean); close each card by the builder's one call (the guide's Derived/Test/ToyasCard.lean, 'card_holds'). Laid BY PROGRAM, IN A SANDBOX (cutbox-door.mjs). By AI agents, Wed Nov 11 2026. No macro, syntax, notation, axiom, sorry.
-/
import Derived.Test.YtofhmhbffdoiaaaDoorRows
import GoSem.ClaimSeven
namespace Go.Proofs.YtofhmhbffdoiaaaDoor
namespace Rows

/-- THE TIED CARD OF 'incipitlaw08.FreemapKeeps'. -/
def freemapKeepsCard : Claim7 := { stood := { row := freemapKeepsRow, standIns := [], harness := (true, "e429793b134be7339726af26978b977bd3f63d83bfac809bfe1f371cf0914a81"), looks := false }, kinds := [], alts := [], laidByText := true, laidKinds := [.data], laidTests := true, laidLooks := .later }
def FreemapKeepsCardSaid : Prop := Claim7.holds Tryd.pinned (.plain (OpenSpec.ofChange freemapKeepsSpec)) freemapKeepsCard

/-- THE TIED CARD OF 'incipitlaw08.FreemapBack'. -/
def freemapBackCard : Claim7 := { stood := { row := freemapBackRow, standIns := [], harness := (true, "e429793b134be7339726af26978b977bd3f63d83bfac809bfe1f371cf0914a81"), looks := false }, kinds := [], alts := [], laidByText := true, laidKinds := [.data], laidTests := true, laidLooks := .later }
def FreemapBackCardSaid : Prop := Claim7.holds Tryd.pinned (.plain (OpenSpec.ofChange freemapBackSpec)) freemapBackCard

/-- THE TIED CARD OF 'incipitlaw08.FreemapPuts'. -/
def freemapPutsCard : Claim7 := { stood := { row := freemapPutsRow, standIns := [], harness := (true, "e429793b134be7339726af26978b977bd3f63d83bfac809bfe1f371cf0914a81"), looks := false }, kinds := [], alts := [], laidByText := true, laidKinds := [.data], laidTests := true, laidLooks := .later }
def FreemapPutsCardSaid : Prop := Claim7.holds Tryd.pinned (.plain (OpenSpec.ofChange freemapPutsSpec)) freemapPutsCard

/-- THE TIED CARD OF 'incipitlaw08.FreemapParts'. -/
def freemapPartsCard : Claim7 := { stood := { row := freemapPartsRow, standIns := [], harness := (true, "e429793b134be7339726af26978b977bd3f63d83bfac809bfe1f371cf0914a81"), looks := false }, kinds := [], alts := [], laidByText := true, laidKinds := [.data], laidTests := true, laidLooks := .later }
def FreemapPartsCardSaid : Prop := Claim7.holds Tryd.pinned (.plain (OpenSpec.ofChange freemapPartsSpec)) freemapPartsCard

/-- THE TIED CARD OF 'incipitlaw08.FreemapDoes'. -/
def freemapDoesCard : Claim7 := { stood := { row := freemapDoesRow, standIns := [], harness := (true, "e429793b134be7339726af26978b977bd3f63d83bfac809bfe1f371cf0914a81"), looks := false }, kinds := [], alts := [], laidByText := true, laidKinds := [.data], laidTests := true, laidLooks := .later }
def FreemapDoesCardSaid : Prop := Claim7.holds Tryd.pinned (.plain (OpenSpec.ofChange freemapDoesSpec)) freemapDoesCard

/-- THE TIED CARD OF 'incipitlaw08.FreemapNone'. -/
def freemapNoneCard : Claim7 := { stood := { row := freemapNoneRow, standIns := [], harness := (true, "e429793b134be7339726af26978b977bd3f63d83bfac809bfe1f371cf0914a81"), looks := false }, kinds := [], alts := [], laidByText := true, laidKinds := [.data], laidTests := true, laidLooks := .later }
def FreemapNoneCardSaid : Prop := Claim7.holds Tryd.pinned (.plain (OpenSpec.ofChange freemapNoneSpec)) freemapNoneCard

/-- THE SECOND FORM's CARD OF 'incipitlaw08.FreemapKeeps'. -/
def freemapKeepsUptoCard : Claim7 := { stood := { row := freemapKeepsUptoRow, standIns := [], harness := (true, "e429793b134be7339726af26978b977bd3f63d83bfac809bfe1f371cf0914a81"), looks := false }, kinds := [], alts := [], laidByText := true, laidKinds := [.data], laidTests := true, laidLooks := .later }
def FreemapKeepsUptoCardSaid : Prop := Claim7.holds Tryd.pinned (.plain (OpenSpec.upto freemapKeepsSpec)) freemapKeepsUptoCard

/-- THE SECOND FORM's CARD OF 'incipitlaw08.FreemapBack'. -/
def freemapBackUptoCard : Claim7 := { stood := { row := freemapBackUptoRow, standIns := [], harness := (true, "e429793b134be7339726af26978b977bd3f63d83bfac809bfe1f371cf0914a81"), looks := false }, kinds := [], alts := [], laidByText := true, laidKinds := [.data], laidTests := true, laidLooks := .later }
def FreemapBackUptoCardSaid : Prop := Claim7.holds Tryd.pinned (.plain (OpenSpec.upto freemapBackSpec)) freemapBackUptoCard

/-- THE SECOND FORM's CARD OF 'incipitlaw08.FreemapPuts'. -/
def freemapPutsUptoCard : Claim7 := { stood := { row := freemapPutsUptoRow, standIns := [], harness := (true, "e429793b134be7339726af26978b977bd3f63d83bfac809bfe1f371cf0914a81"), looks := false }, kinds := [], alts := [], laidByText := true, laidKinds := [.data], laidTests := true, laidLooks := .later }
def FreemapPutsUptoCardSaid : Prop := Claim7.holds Tryd.pinned (.plain (OpenSpec.upto freemapPutsSpec)) freemapPutsUptoCard

/-- THE SECOND FORM's CARD OF 'incipitlaw08.FreemapParts'. -/
def freemapPartsUptoCard : Claim7 := { stood := { row := freemapPartsUptoRow, standIns := [], harness := (true, "e429793b134be7339726af26978b977bd3f63d83bfac809bfe1f371cf0914a81"), looks := false }, kinds := [], alts := [], laidByText := true, laidKinds := [.data], laidTests := true, laidLooks := .later }
def FreemapPartsUptoCardSaid : Prop := Claim7.holds Tryd.pinned (.plain (OpenSpec.upto freemapPartsSpec)) freemapPartsUptoCard

/-- THE SECOND FORM's CARD OF 'incipitlaw08.FreemapDoes'. -/
def freemapDoesUptoCard : Claim7 := { stood := { row := freemapDoesUptoRow, standIns := [], harness := (true, "e429793b134be7339726af26978b977bd3f63d83bfac809bfe1f371cf0914a81"), looks := false }, kinds := [], alts := [], laidByText := true, laidKinds := [.data], laidTests := true, laidLooks := .later }
def FreemapDoesUptoCardSaid : Prop := Claim7.holds Tryd.pinned (.plain (OpenSpec.upto freemapDoesSpec)) freemapDoesUptoCard

/-- THE SECOND FORM's CARD OF 'incipitlaw08.FreemapNone'. -/
def freemapNoneUptoCard : Claim7 := { stood := { row := freemapNoneUptoRow, standIns := [], harness := (true, "e429793b134be7339726af26978b977bd3f63d83bfac809bfe1f371cf0914a81"), looks := false }, kinds := [], alts := [], laidByText := true, laidKinds := [.data], laidTests := true, laidLooks := .later }
def FreemapNoneUptoCardSaid : Prop := Claim7.holds Tryd.pinned (.plain (OpenSpec.upto freemapNoneSpec)) freemapNoneUptoCard
end Rows
end Go.Proofs.YtofhmhbffdoiaaaDoor
