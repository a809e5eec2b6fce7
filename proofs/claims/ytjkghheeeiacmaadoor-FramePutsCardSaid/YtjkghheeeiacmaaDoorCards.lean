/-
  DERIVED. GIVEN WITH THE SEED: THE CARDS: each row of YtjkghheeeiacmaaDoorRows.lean that lists a variable, with what it lists TIED to the program's text (the seventh form; the later family's looks); each row that meets fmt, with fmt's text TOLD by the authors' own Lean function (tested against real Go, not proved from fmt's source: count such statements apart). THE CARD IS WHAT COUNTS. Prove the row's statement (the work); the ties are given (YtjkghheeeiacmaaDoorTie.lean); close each card by the builder's one call (the guide's Derived/Test/ToyasCard.lean, 'card_holds'). Laid BY PROGRAM, IN A SANDBOX (cutbox-door.mjs). By AI agents, Wed Nov 11 2026. No macro, syntax, notation, axiom, sorry.
-/
import Derived.Test.YtjkghheeeiacmaaDoorRows
import GoSem.ClaimSeven
namespace Go.Proofs.YtjkghheeeiacmaaDoor
namespace Rows

/-- THE TIED CARD OF 'incipitlaw04.FrameFault'. -/
def frameFaultCard : Claim7 := { stood := { row := frameFaultRow, standIns := [], harness := (true, "1793a0570479de37758b837c5296e5e9090af6bdc23046ec7e7734f2bc9d5067"), looks := false }, kinds := [], alts := [], laidByText := true, laidKinds := [.data], laidTests := true, laidLooks := .later }
def FrameFaultCardSaid : Prop := Claim7.holds Tryd.pinned (.plain (OpenSpec.ofChange frameFaultSpec)) frameFaultCard

/-- THE TIED CARD OF 'incipitlaw04.FramePlace'. -/
def framePlaceCard : Claim7 := { stood := { row := framePlaceRow, standIns := [], harness := (true, "1793a0570479de37758b837c5296e5e9090af6bdc23046ec7e7734f2bc9d5067"), looks := false }, kinds := [], alts := [], laidByText := true, laidKinds := [.data], laidTests := true, laidLooks := .later }
def FramePlaceCardSaid : Prop := Claim7.holds Tryd.pinned (.plain (OpenSpec.ofChange framePlaceSpec)) framePlaceCard

/-- THE TIED CARD OF 'incipitlaw04.FrameGets'. -/
def frameGetsCard : Claim7 := { stood := { row := frameGetsRow, standIns := [], harness := (true, "1793a0570479de37758b837c5296e5e9090af6bdc23046ec7e7734f2bc9d5067"), looks := false }, kinds := [], alts := [], laidByText := true, laidKinds := [.data], laidTests := true, laidLooks := .later }
def FrameGetsCardSaid : Prop := Claim7.holds Tryd.pinned (.plain (OpenSpec.ofChange frameGetsSpec)) frameGetsCard

/-- THE TIED CARD OF 'incipitlaw04.FrameBack'. -/
def frameBackCard : Claim7 := { stood := { row := frameBackRow, standIns := [], harness := (true, "1793a0570479de37758b837c5296e5e9090af6bdc23046ec7e7734f2bc9d5067"), looks := false }, kinds := [], alts := [], laidByText := true, laidKinds := [.data, .data, .pinned], laidTests := true, laidLooks := .later }
def FrameBackCardSaid : Prop := Claim7.holds Tryd.pinned (.plain (OpenSpec.ofChange frameBackSpec)) frameBackCard

/-- THE TIED CARD OF 'incipitlaw04.FramePuts'. -/
def framePutsCard : Claim7 := { stood := { row := framePutsRow, standIns := [], harness := (true, "1793a0570479de37758b837c5296e5e9090af6bdc23046ec7e7734f2bc9d5067"), looks := false }, kinds := [], alts := [], laidByText := true, laidKinds := [.data, .data, .pinned], laidTests := true, laidLooks := .later }
def FramePutsCardSaid : Prop := Claim7.holds Tryd.pinned (.plain (OpenSpec.ofChange framePutsSpec)) framePutsCard

/-- THE SECOND FORM's CARD OF 'incipitlaw04.FrameFault'. -/
def frameFaultUptoCard : Claim7 := { stood := { row := frameFaultUptoRow, standIns := [], harness := (true, "1793a0570479de37758b837c5296e5e9090af6bdc23046ec7e7734f2bc9d5067"), looks := false }, kinds := [], alts := [], laidByText := true, laidKinds := [.data], laidTests := true, laidLooks := .later }
def FrameFaultUptoCardSaid : Prop := Claim7.holds Tryd.pinned (.plain (OpenSpec.upto frameFaultSpec)) frameFaultUptoCard

/-- THE SECOND FORM's CARD OF 'incipitlaw04.FramePlace'. -/
def framePlaceUptoCard : Claim7 := { stood := { row := framePlaceUptoRow, standIns := [], harness := (true, "1793a0570479de37758b837c5296e5e9090af6bdc23046ec7e7734f2bc9d5067"), looks := false }, kinds := [], alts := [], laidByText := true, laidKinds := [.data], laidTests := true, laidLooks := .later }
def FramePlaceUptoCardSaid : Prop := Claim7.holds Tryd.pinned (.plain (OpenSpec.upto framePlaceSpec)) framePlaceUptoCard

/-- THE SECOND FORM's CARD OF 'incipitlaw04.FrameGets'. -/
def frameGetsUptoCard : Claim7 := { stood := { row := frameGetsUptoRow, standIns := [], harness := (true, "1793a0570479de37758b837c5296e5e9090af6bdc23046ec7e7734f2bc9d5067"), looks := false }, kinds := [], alts := [], laidByText := true, laidKinds := [.data], laidTests := true, laidLooks := .later }
def FrameGetsUptoCardSaid : Prop := Claim7.holds Tryd.pinned (.plain (OpenSpec.upto frameGetsSpec)) frameGetsUptoCard

/-- THE SECOND FORM's CARD OF 'incipitlaw04.FrameBack'. -/
def frameBackUptoCard : Claim7 := { stood := { row := frameBackUptoRow, standIns := [], harness := (true, "1793a0570479de37758b837c5296e5e9090af6bdc23046ec7e7734f2bc9d5067"), looks := false }, kinds := [], alts := [], laidByText := true, laidKinds := [.data, .data, .pinned], laidTests := true, laidLooks := .later }
def FrameBackUptoCardSaid : Prop := Claim7.holds Tryd.pinned (.plain (OpenSpec.upto frameBackSpec)) frameBackUptoCard

/-- THE SECOND FORM's CARD OF 'incipitlaw04.FramePuts'. -/
def framePutsUptoCard : Claim7 := { stood := { row := framePutsUptoRow, standIns := [], harness := (true, "1793a0570479de37758b837c5296e5e9090af6bdc23046ec7e7734f2bc9d5067"), looks := false }, kinds := [], alts := [], laidByText := true, laidKinds := [.data, .data, .pinned], laidTests := true, laidLooks := .later }
def FramePutsUptoCardSaid : Prop := Claim7.holds Tryd.pinned (.plain (OpenSpec.upto framePutsSpec)) framePutsUptoCard
end Rows
end Go.Proofs.YtjkghheeeiacmaaDoor
