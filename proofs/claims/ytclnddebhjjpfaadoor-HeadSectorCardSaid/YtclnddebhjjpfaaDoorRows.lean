/-
  NARROWER THAN 'FOR EVERY INPUT', by the rows' own cells (each row's printed sentence says how): HeadChooses: laid · HeadGets: laid · HeadPuts: laid · HeadBack: laid · HeadNewer: laid · HeadSector: laid.
  DERIVED. THE GIVEN ROWS OF THIS SEAT. 6 by the template 'for every input the law returns true; each argument reads behind the call as it read before'; 0 by the template 'total and deterministic' (their statements: YtclnddebhjjpfaaDoorTotals.lean).
  GIVEN WITH THE SEED: the statements are not yours to turn. If you find one false, say at which input.
  Laid BY PROGRAM, IN A SANDBOX (cutbox-rows.mjs): the forced cells as the released guide's own fill.sh prints them over the translation 8357de067930e6cb… (all of the seat's roots in one cut). By AI agents, Wed Nov 11 2026. No macro, syntax, notation, axiom, sorry.
-/
import Derived.Test.YtclnddebhjjpfaaDoorChecked
import GoSem.PinnedTables
import GoSem.Claim
import GoSem.ClaimJoined
import GoSem.ClaimMapViews
import Derived.JoinedTies
import Derived.KernelRfl
namespace Go.Proofs.YtclnddebhjjpfaaDoor
/- THE CELL 'sum', in the pinned program and in every row, IS THE sha256 OF THE DUMP (.gsa) THAT YtclnddebhjjpfaaDoorProg.lean LOADS. Nothing in Lean hashes anything: it is a label: what it is worth is what the hold of that sum in a sandbox is worth. -/
noncomputable def Tryd.pinned : Pinned := { name := "ytclnddebhjjpfaadoor", sum := "8357de067930e6cbffadf3c8fbca8cc29827bc5d45fc180444f4d5525cfe8d8e", checked := Tryd.checked }
namespace Rows
def none {H : Type} : Left H := { results := [], args := [] }

/- WHAT THE LISTED PACKAGE-LEVEL VARIABLES READ AS WHEN THE CALL BEGINS. Each datum BY PROGRAM (the guide's laid-datum.mjs) off the statement by which the dump's own 'gosem.cut.vars' lays the variable. In a bare row this is a premise. The card (YtclnddebhjjpfaaDoorCards.lean) ties it to the program's text. -/
def laid_incipit_crc_table {H : Type} : DataW H := .agg [.lit (.int .u32 0), .lit (.int .u32 274646895), .lit (.int .u32 549293790), .lit (.int .u32 820201905), .lit (.int .u32 1098587580), .lit (.int .u32 1361435347), .lit (.int .u32 1640403810), .lit (.int .u32 1905808397), .lit (.int .u32 2197175160), .lit (.int .u32 2460548119), .lit (.int .u32 2722870694), .lit (.int .u32 2987750089), .lit (.int .u32 3280807620), .lit (.int .u32 3553878443), .lit (.int .u32 3811616794), .lit (.int .u32 4084100981)]
def laid_unicode_utf8_acceptRanges {H : Type} : DataW H := .agg [.agg [.lit (.int .u8 128), .lit (.int .u8 191)], .agg [.lit (.int .u8 160), .lit (.int .u8 191)], .agg [.lit (.int .u8 128), .lit (.int .u8 159)], .agg [.lit (.int .u8 144), .lit (.int .u8 191)], .agg [.lit (.int .u8 128), .lit (.int .u8 143)], .agg [.lit (.int .u8 0), .lit (.int .u8 0)], .agg [.lit (.int .u8 0), .lit (.int .u8 0)], .agg [.lit (.int .u8 0), .lit (.int .u8 0)], .agg [.lit (.int .u8 0), .lit (.int .u8 0)], .agg [.lit (.int .u8 0), .lit (.int .u8 0)], .agg [.lit (.int .u8 0), .lit (.int .u8 0)], .agg [.lit (.int .u8 0), .lit (.int .u8 0)], .agg [.lit (.int .u8 0), .lit (.int .u8 0)], .agg [.lit (.int .u8 0), .lit (.int .u8 0)], .agg [.lit (.int .u8 0), .lit (.int .u8 0)], .agg [.lit (.int .u8 0), .lit (.int .u8 0)]]
/-- One of Go's own tables, pinned by name: the form's constant. -/
def laid_unicode_utf8_first : DataW Unit := Go.Pinned.utf8First

/-- 'incipitlaw06.HeadChooses': WHATEVER THE INPUT: true; the input reads as it did. -/
def headChoosesSpec : ChangeSpec := { name := "headChooses", fn := fun _ => fun
  | [d1, d2] => { results := [.lit (.bool true)], args := [d1, d2] }
  | _ => none }
def headChoosesRow : OpenClaim := { program := "ytclnddebhjjpfaadoor", sum := "8357de067930e6cbffadf3c8fbca8cc29827bc5d45fc180444f4d5525cfe8d8e", func := "incipit/incipitlaw06.HeadChooses", spec := "headChooses", named := ["incipit/crc.table"], apart := false, laid := [("incipit/crc.table", laid_incipit_crc_table)] }
def HeadChoosesSaid : Prop := headChoosesRow.holds Tryd.pinned (OpenSpec.ofChange headChoosesSpec)

/-- ITS FALSE NEIGHBOUR: 'it returns false'. Refute it at one input. -/
def headChoosesWrong : ChangeSpec := { name := "headChooses", fn := fun _ => fun
  | [d1, d2] => { results := [.lit (.bool false)], args := [d1, d2] }
  | _ => none }
def HeadChoosesWrongFalsely : Prop := headChoosesRow.holds Tryd.pinned (OpenSpec.ofChange headChoosesWrong)

/-- 'incipitlaw06.HeadGets': WHATEVER THE INPUT: true; the input reads as it did. -/
def headGetsSpec : ChangeSpec := { name := "headGets", fn := fun _ => fun
  | [d1, d2] => { results := [.lit (.bool true)], args := [d1, d2] }
  | _ => none }
def headGetsRow : OpenClaim := { program := "ytclnddebhjjpfaadoor", sum := "8357de067930e6cbffadf3c8fbca8cc29827bc5d45fc180444f4d5525cfe8d8e", func := "incipit/incipitlaw06.HeadGets", spec := "headGets", named := ["incipit/crc.table"], apart := false, laid := [("incipit/crc.table", laid_incipit_crc_table)] }
def HeadGetsSaid : Prop := headGetsRow.holds Tryd.pinned (OpenSpec.ofChange headGetsSpec)

/-- ITS FALSE NEIGHBOUR: 'it returns false'. Refute it at one input. -/
def headGetsWrong : ChangeSpec := { name := "headGets", fn := fun _ => fun
  | [d1, d2] => { results := [.lit (.bool false)], args := [d1, d2] }
  | _ => none }
def HeadGetsWrongFalsely : Prop := headGetsRow.holds Tryd.pinned (OpenSpec.ofChange headGetsWrong)

/-- 'incipitlaw06.HeadPuts': WHATEVER THE INPUT: true; the input reads as it did. -/
def headPutsSpec : ChangeSpec := { name := "headPuts", fn := fun _ => fun
  | [d1, d2] => { results := [.lit (.bool true)], args := [d1, d2] }
  | _ => none }
def headPutsRow : OpenClaim := { program := "ytclnddebhjjpfaadoor", sum := "8357de067930e6cbffadf3c8fbca8cc29827bc5d45fc180444f4d5525cfe8d8e", func := "incipit/incipitlaw06.HeadPuts", spec := "headPuts", named := ["incipit/crc.table"], apart := false, laid := [("incipit/crc.table", laid_incipit_crc_table)] }
def HeadPutsSaid : Prop := headPutsRow.holds Tryd.pinned (OpenSpec.ofChange headPutsSpec)

/-- ITS FALSE NEIGHBOUR: 'it returns false'. Refute it at one input. -/
def headPutsWrong : ChangeSpec := { name := "headPuts", fn := fun _ => fun
  | [d1, d2] => { results := [.lit (.bool false)], args := [d1, d2] }
  | _ => none }
def HeadPutsWrongFalsely : Prop := headPutsRow.holds Tryd.pinned (OpenSpec.ofChange headPutsWrong)

/-- 'incipitlaw06.HeadBack': WHATEVER THE INPUT: true; the input reads as it did. -/
def headBackSpec : ChangeSpec := { name := "headBack", fn := fun _ => fun
  | [d1, d2, d3] => { results := [.lit (.bool true)], args := [d1, d2, d3] }
  | _ => none }
def headBackRow : OpenClaim := { program := "ytclnddebhjjpfaadoor", sum := "8357de067930e6cbffadf3c8fbca8cc29827bc5d45fc180444f4d5525cfe8d8e", func := "incipit/incipitlaw06.HeadBack", spec := "headBack", named := ["incipit/crc.table"], apart := false, laid := [("incipit/crc.table", laid_incipit_crc_table)] }
def HeadBackSaid : Prop := headBackRow.holds Tryd.pinned (OpenSpec.ofChange headBackSpec)

/-- ITS FALSE NEIGHBOUR: 'it returns false'. Refute it at one input. -/
def headBackWrong : ChangeSpec := { name := "headBack", fn := fun _ => fun
  | [d1, d2, d3] => { results := [.lit (.bool false)], args := [d1, d2, d3] }
  | _ => none }
def HeadBackWrongFalsely : Prop := headBackRow.holds Tryd.pinned (OpenSpec.ofChange headBackWrong)

/-- 'incipitlaw06.HeadNewer': WHATEVER THE INPUT: true; the input reads as it did. -/
def headNewerSpec : ChangeSpec := { name := "headNewer", fn := fun _ => fun
  | [d1, d2, d3] => { results := [.lit (.bool true)], args := [d1, d2, d3] }
  | _ => none }
def headNewerRow : OpenClaim := { program := "ytclnddebhjjpfaadoor", sum := "8357de067930e6cbffadf3c8fbca8cc29827bc5d45fc180444f4d5525cfe8d8e", func := "incipit/incipitlaw06.HeadNewer", spec := "headNewer", named := ["incipit/crc.table"], apart := false, laid := [("incipit/crc.table", laid_incipit_crc_table)] }
def HeadNewerSaid : Prop := headNewerRow.holds Tryd.pinned (OpenSpec.ofChange headNewerSpec)

/-- ITS FALSE NEIGHBOUR: 'it returns false'. Refute it at one input. -/
def headNewerWrong : ChangeSpec := { name := "headNewer", fn := fun _ => fun
  | [d1, d2, d3] => { results := [.lit (.bool false)], args := [d1, d2, d3] }
  | _ => none }
def HeadNewerWrongFalsely : Prop := headNewerRow.holds Tryd.pinned (OpenSpec.ofChange headNewerWrong)

/-- 'incipitlaw06.HeadSector': WHATEVER THE INPUT: true; the input reads as it did. -/
def headSectorSpec : ChangeSpec := { name := "headSector", fn := fun _ => fun
  | [d1, d2, d3] => { results := [.lit (.bool true)], args := [d1, d2, d3] }
  | _ => none }
def headSectorRow : OpenClaim := { program := "ytclnddebhjjpfaadoor", sum := "8357de067930e6cbffadf3c8fbca8cc29827bc5d45fc180444f4d5525cfe8d8e", func := "incipit/incipitlaw06.HeadSector", spec := "headSector", named := ["incipit/crc.table", "unicode/utf8.first", "unicode/utf8.acceptRanges"], apart := false, laid := [("incipit/crc.table", laid_incipit_crc_table), ("unicode/utf8.acceptRanges", laid_unicode_utf8_acceptRanges), ("unicode/utf8.first", laid_unicode_utf8_first)] }
def HeadSectorSaid : Prop := headSectorRow.holds Tryd.pinned (OpenSpec.ofChange headSectorSpec)

/-- ITS FALSE NEIGHBOUR: 'it returns false'. Refute it at one input. -/
def headSectorWrong : ChangeSpec := { name := "headSector", fn := fun _ => fun
  | [d1, d2, d3] => { results := [.lit (.bool false)], args := [d1, d2, d3] }
  | _ => none }
def HeadSectorWrongFalsely : Prop := headSectorRow.holds Tryd.pinned (OpenSpec.ofChange headSectorWrong)

/- THE SECOND FORM. 'bulk': how many values and letters a reading holds, each counted each time it is reached (what is shared counts as often as it is met; a slice's spare places count too). A statement '..UptoSaid' is the law's where the arguments, and the package variables that the reading takes, are together of bulk at most 1048576: NARROWER than '..Said'. Prove '..Said' where nothing that the law and all that it calls make is longer than what came in: it says more and counts as full. Else prove '..UptoSaid'. A law counts once. -/
mutual
def uptoBulk {H : Type} : DataW H → Nat
  | .lit (.string bytes) => bytes.length + 1
  | .lit _ => 1
  | .nil => 1
  | .ptr d => uptoBulk d + 1
  | .slice elems spare => uptoBulkAll elems + uptoBulkAll spare + 1
  | .agg parts => uptoBulkAll parts + 1
  | .iface _ d => uptoBulk d + 1
  | .map entries => uptoBulkEntries entries + 1
  | .held _ => 1
def uptoBulkAll {H : Type} : List (DataW H) → Nat
  | [] => 0
  | d :: r => uptoBulk d + uptoBulkAll r
def uptoBulkEntries {H : Type} : List (Lit × DataW H) → Nat
  | [] => 0
  | x :: r => uptoBulkEntry x + uptoBulkEntries r
def uptoBulkEntry {H : Type} : Lit × DataW H → Nat
  | (.string bytes, d) => bytes.length + uptoBulk d + 1
  | (_, d) => uptoBulk d + 1
 end
def uptoSmall : (H : Type) → List (DataW H) → Bool := fun _ ds => decide (uptoBulkAll ds ≤ 1048576)
def OpenSpec.upto (s : _root_.Go.ChangeSpec) : _root_.Go.OpenSpec := { _root_.Go.OpenSpec.ofChange s with cond := some uptoSmall }

/-- 'incipitlaw06.HeadChooses', WHERE WHAT IT READS IS OF BULK AT MOST 1048576: true; the input reads as it did. -/
def headChoosesUptoRow : OpenClaim := { program := "ytclnddebhjjpfaadoor", sum := "8357de067930e6cbffadf3c8fbca8cc29827bc5d45fc180444f4d5525cfe8d8e", func := "incipit/incipitlaw06.HeadChooses", spec := "headChooses", named := ["incipit/crc.table"], apart := false, laid := [("incipit/crc.table", laid_incipit_crc_table)], narrowed := true }
def HeadChoosesUptoSaid : Prop := headChoosesUptoRow.holds Tryd.pinned (OpenSpec.upto headChoosesSpec)

/-- 'incipitlaw06.HeadGets', WHERE WHAT IT READS IS OF BULK AT MOST 1048576: true; the input reads as it did. -/
def headGetsUptoRow : OpenClaim := { program := "ytclnddebhjjpfaadoor", sum := "8357de067930e6cbffadf3c8fbca8cc29827bc5d45fc180444f4d5525cfe8d8e", func := "incipit/incipitlaw06.HeadGets", spec := "headGets", named := ["incipit/crc.table"], apart := false, laid := [("incipit/crc.table", laid_incipit_crc_table)], narrowed := true }
def HeadGetsUptoSaid : Prop := headGetsUptoRow.holds Tryd.pinned (OpenSpec.upto headGetsSpec)

/-- 'incipitlaw06.HeadPuts', WHERE WHAT IT READS IS OF BULK AT MOST 1048576: true; the input reads as it did. -/
def headPutsUptoRow : OpenClaim := { program := "ytclnddebhjjpfaadoor", sum := "8357de067930e6cbffadf3c8fbca8cc29827bc5d45fc180444f4d5525cfe8d8e", func := "incipit/incipitlaw06.HeadPuts", spec := "headPuts", named := ["incipit/crc.table"], apart := false, laid := [("incipit/crc.table", laid_incipit_crc_table)], narrowed := true }
def HeadPutsUptoSaid : Prop := headPutsUptoRow.holds Tryd.pinned (OpenSpec.upto headPutsSpec)

/-- 'incipitlaw06.HeadBack', WHERE WHAT IT READS IS OF BULK AT MOST 1048576: true; the input reads as it did. -/
def headBackUptoRow : OpenClaim := { program := "ytclnddebhjjpfaadoor", sum := "8357de067930e6cbffadf3c8fbca8cc29827bc5d45fc180444f4d5525cfe8d8e", func := "incipit/incipitlaw06.HeadBack", spec := "headBack", named := ["incipit/crc.table"], apart := false, laid := [("incipit/crc.table", laid_incipit_crc_table)], narrowed := true }
def HeadBackUptoSaid : Prop := headBackUptoRow.holds Tryd.pinned (OpenSpec.upto headBackSpec)

/-- 'incipitlaw06.HeadNewer', WHERE WHAT IT READS IS OF BULK AT MOST 1048576: true; the input reads as it did. -/
def headNewerUptoRow : OpenClaim := { program := "ytclnddebhjjpfaadoor", sum := "8357de067930e6cbffadf3c8fbca8cc29827bc5d45fc180444f4d5525cfe8d8e", func := "incipit/incipitlaw06.HeadNewer", spec := "headNewer", named := ["incipit/crc.table"], apart := false, laid := [("incipit/crc.table", laid_incipit_crc_table)], narrowed := true }
def HeadNewerUptoSaid : Prop := headNewerUptoRow.holds Tryd.pinned (OpenSpec.upto headNewerSpec)

/-- 'incipitlaw06.HeadSector', WHERE WHAT IT READS IS OF BULK AT MOST 1048576: true; the input reads as it did. -/
def headSectorUptoRow : OpenClaim := { program := "ytclnddebhjjpfaadoor", sum := "8357de067930e6cbffadf3c8fbca8cc29827bc5d45fc180444f4d5525cfe8d8e", func := "incipit/incipitlaw06.HeadSector", spec := "headSector", named := ["incipit/crc.table", "unicode/utf8.first", "unicode/utf8.acceptRanges"], apart := false, laid := [("incipit/crc.table", laid_incipit_crc_table), ("unicode/utf8.acceptRanges", laid_unicode_utf8_acceptRanges), ("unicode/utf8.first", laid_unicode_utf8_first)], narrowed := true }
def HeadSectorUptoSaid : Prop := headSectorUptoRow.holds Tryd.pinned (OpenSpec.upto headSectorSpec)

end Rows
end Go.Proofs.YtclnddebhjjpfaaDoor
