/-
  NARROWER THAN 'FOR EVERY INPUT', by the rows' own cells (each row's printed sentence says how): FrameFault: laid · FramePlace: laid · FrameGets: laid · FrameBack: laid · FramePuts: laid.
  DERIVED. THE GIVEN ROWS OF THIS SEAT. 5 by the template 'for every input the law returns true; each argument reads behind the call as it read before'; 0 by the template 'total and deterministic' (their statements: YtjkghheeeiacmaaDoorTotals.lean).
  GIVEN WITH THE SEED: the statements are not yours to turn. If you find one false, say at which input.
  Laid BY PROGRAM, IN A SANDBOX (cutbox-rows.mjs): the forced cells as the released guide's own fill.sh prints them over the translation 95ac7b912b73df9a… (all of the seat's roots in one cut). By AI agents, Wed Nov 11 2026. No macro, syntax, notation, axiom, sorry.
-/
import Derived.Test.YtjkghheeeiacmaaDoorChecked
import GoSem.PinnedTables
import GoSem.Claim
import GoSem.ClaimJoined
import GoSem.ClaimMapViews
import Derived.JoinedTies
import Derived.KernelRfl
namespace Go.Proofs.YtjkghheeeiacmaaDoor
/- THE CELL 'sum', in the pinned program and in every row, IS THE sha256 OF THE DUMP (.gsa) THAT YtjkghheeeiacmaaDoorProg.lean LOADS. Nothing in Lean hashes anything: it is a label: what it is worth is what the hold of that sum in a sandbox is worth. -/
noncomputable def Tryd.pinned : Pinned := { name := "ytjkghheeeiacmaadoor", sum := "95ac7b912b73df9ab8f0933aa82f86d7598615e3b4f7de37e5a0e956883381e6", checked := Tryd.checked }
namespace Rows
def none {H : Type} : Left H := { results := [], args := [] }

/- WHAT THE LISTED PACKAGE-LEVEL VARIABLES READ AS WHEN THE CALL BEGINS. Each datum BY PROGRAM (the guide's laid-datum.mjs) off the statement by which the dump's own 'gosem.cut.vars' lays the variable. In a bare row this is a premise. The card (YtjkghheeeiacmaaDoorCards.lean) ties it to the program's text. -/
def laid_incipit_crc_table {H : Type} : DataW H := .agg [.lit (.int .u32 0), .lit (.int .u32 274646895), .lit (.int .u32 549293790), .lit (.int .u32 820201905), .lit (.int .u32 1098587580), .lit (.int .u32 1361435347), .lit (.int .u32 1640403810), .lit (.int .u32 1905808397), .lit (.int .u32 2197175160), .lit (.int .u32 2460548119), .lit (.int .u32 2722870694), .lit (.int .u32 2987750089), .lit (.int .u32 3280807620), .lit (.int .u32 3553878443), .lit (.int .u32 3811616794), .lit (.int .u32 4084100981)]
def laid_unicode_utf8_acceptRanges {H : Type} : DataW H := .agg [.agg [.lit (.int .u8 128), .lit (.int .u8 191)], .agg [.lit (.int .u8 160), .lit (.int .u8 191)], .agg [.lit (.int .u8 128), .lit (.int .u8 159)], .agg [.lit (.int .u8 144), .lit (.int .u8 191)], .agg [.lit (.int .u8 128), .lit (.int .u8 143)], .agg [.lit (.int .u8 0), .lit (.int .u8 0)], .agg [.lit (.int .u8 0), .lit (.int .u8 0)], .agg [.lit (.int .u8 0), .lit (.int .u8 0)], .agg [.lit (.int .u8 0), .lit (.int .u8 0)], .agg [.lit (.int .u8 0), .lit (.int .u8 0)], .agg [.lit (.int .u8 0), .lit (.int .u8 0)], .agg [.lit (.int .u8 0), .lit (.int .u8 0)], .agg [.lit (.int .u8 0), .lit (.int .u8 0)], .agg [.lit (.int .u8 0), .lit (.int .u8 0)], .agg [.lit (.int .u8 0), .lit (.int .u8 0)], .agg [.lit (.int .u8 0), .lit (.int .u8 0)]]
/-- One of Go's own tables, pinned by name: the form's constant. -/
def laid_unicode_utf8_first : DataW Unit := Go.Pinned.utf8First

/-- 'incipitlaw04.FrameFault': WHATEVER THE INPUT: true; the input reads as it did. -/
def frameFaultSpec : ChangeSpec := { name := "frameFault", fn := fun _ => fun
  | [d1, d2, d3] => { results := [.lit (.bool true)], args := [d1, d2, d3] }
  | _ => none }
def frameFaultRow : OpenClaim := { program := "ytjkghheeeiacmaadoor", sum := "95ac7b912b73df9ab8f0933aa82f86d7598615e3b4f7de37e5a0e956883381e6", func := "incipit/incipitlaw04.FrameFault", spec := "frameFault", named := ["incipit/crc.table"], apart := false, laid := [("incipit/crc.table", laid_incipit_crc_table)] }
def FrameFaultSaid : Prop := frameFaultRow.holds Tryd.pinned (OpenSpec.ofChange frameFaultSpec)

/-- ITS FALSE NEIGHBOUR: 'it returns false'. Refute it at one input. -/
def frameFaultWrong : ChangeSpec := { name := "frameFault", fn := fun _ => fun
  | [d1, d2, d3] => { results := [.lit (.bool false)], args := [d1, d2, d3] }
  | _ => none }
def FrameFaultWrongFalsely : Prop := frameFaultRow.holds Tryd.pinned (OpenSpec.ofChange frameFaultWrong)

/-- 'incipitlaw04.FramePlace': WHATEVER THE INPUT: true; the input reads as it did. -/
def framePlaceSpec : ChangeSpec := { name := "framePlace", fn := fun _ => fun
  | [d1, d2] => { results := [.lit (.bool true)], args := [d1, d2] }
  | _ => none }
def framePlaceRow : OpenClaim := { program := "ytjkghheeeiacmaadoor", sum := "95ac7b912b73df9ab8f0933aa82f86d7598615e3b4f7de37e5a0e956883381e6", func := "incipit/incipitlaw04.FramePlace", spec := "framePlace", named := ["incipit/crc.table"], apart := false, laid := [("incipit/crc.table", laid_incipit_crc_table)] }
def FramePlaceSaid : Prop := framePlaceRow.holds Tryd.pinned (OpenSpec.ofChange framePlaceSpec)

/-- ITS FALSE NEIGHBOUR: 'it returns false'. Refute it at one input. -/
def framePlaceWrong : ChangeSpec := { name := "framePlace", fn := fun _ => fun
  | [d1, d2] => { results := [.lit (.bool false)], args := [d1, d2] }
  | _ => none }
def FramePlaceWrongFalsely : Prop := framePlaceRow.holds Tryd.pinned (OpenSpec.ofChange framePlaceWrong)

/-- 'incipitlaw04.FrameGets': WHATEVER THE INPUT: true; the input reads as it did. -/
def frameGetsSpec : ChangeSpec := { name := "frameGets", fn := fun _ => fun
  | [d1, d2, d3, d4] => { results := [.lit (.bool true)], args := [d1, d2, d3, d4] }
  | _ => none }
def frameGetsRow : OpenClaim := { program := "ytjkghheeeiacmaadoor", sum := "95ac7b912b73df9ab8f0933aa82f86d7598615e3b4f7de37e5a0e956883381e6", func := "incipit/incipitlaw04.FrameGets", spec := "frameGets", named := ["incipit/crc.table"], apart := false, laid := [("incipit/crc.table", laid_incipit_crc_table)] }
def FrameGetsSaid : Prop := frameGetsRow.holds Tryd.pinned (OpenSpec.ofChange frameGetsSpec)

/-- ITS FALSE NEIGHBOUR: 'it returns false'. Refute it at one input. -/
def frameGetsWrong : ChangeSpec := { name := "frameGets", fn := fun _ => fun
  | [d1, d2, d3, d4] => { results := [.lit (.bool false)], args := [d1, d2, d3, d4] }
  | _ => none }
def FrameGetsWrongFalsely : Prop := frameGetsRow.holds Tryd.pinned (OpenSpec.ofChange frameGetsWrong)

/-- 'incipitlaw04.FrameBack': WHATEVER THE INPUT: true; the input reads as it did. -/
def frameBackSpec : ChangeSpec := { name := "frameBack", fn := fun _ => fun
  | [d1, d2, d3] => { results := [.lit (.bool true)], args := [d1, d2, d3] }
  | _ => none }
def frameBackRow : OpenClaim := { program := "ytjkghheeeiacmaadoor", sum := "95ac7b912b73df9ab8f0933aa82f86d7598615e3b4f7de37e5a0e956883381e6", func := "incipit/incipitlaw04.FrameBack", spec := "frameBack", named := ["incipit/crc.table", "unicode/utf8.first", "unicode/utf8.acceptRanges"], apart := false, laid := [("incipit/crc.table", laid_incipit_crc_table), ("unicode/utf8.acceptRanges", laid_unicode_utf8_acceptRanges), ("unicode/utf8.first", laid_unicode_utf8_first)] }
def FrameBackSaid : Prop := frameBackRow.holds Tryd.pinned (OpenSpec.ofChange frameBackSpec)

/-- ITS FALSE NEIGHBOUR: 'it returns false'. Refute it at one input. -/
def frameBackWrong : ChangeSpec := { name := "frameBack", fn := fun _ => fun
  | [d1, d2, d3] => { results := [.lit (.bool false)], args := [d1, d2, d3] }
  | _ => none }
def FrameBackWrongFalsely : Prop := frameBackRow.holds Tryd.pinned (OpenSpec.ofChange frameBackWrong)

/-- 'incipitlaw04.FramePuts': WHATEVER THE INPUT: true; the input reads as it did. -/
def framePutsSpec : ChangeSpec := { name := "framePuts", fn := fun _ => fun
  | [d1, d2] => { results := [.lit (.bool true)], args := [d1, d2] }
  | _ => none }
def framePutsRow : OpenClaim := { program := "ytjkghheeeiacmaadoor", sum := "95ac7b912b73df9ab8f0933aa82f86d7598615e3b4f7de37e5a0e956883381e6", func := "incipit/incipitlaw04.FramePuts", spec := "framePuts", named := ["incipit/crc.table", "unicode/utf8.first", "unicode/utf8.acceptRanges"], apart := false, laid := [("incipit/crc.table", laid_incipit_crc_table), ("unicode/utf8.acceptRanges", laid_unicode_utf8_acceptRanges), ("unicode/utf8.first", laid_unicode_utf8_first)] }
def FramePutsSaid : Prop := framePutsRow.holds Tryd.pinned (OpenSpec.ofChange framePutsSpec)

/-- ITS FALSE NEIGHBOUR: 'it returns false'. Refute it at one input. -/
def framePutsWrong : ChangeSpec := { name := "framePuts", fn := fun _ => fun
  | [d1, d2] => { results := [.lit (.bool false)], args := [d1, d2] }
  | _ => none }
def FramePutsWrongFalsely : Prop := framePutsRow.holds Tryd.pinned (OpenSpec.ofChange framePutsWrong)

/- THE SECOND FORM. 'bulk': how many values and letters a reading holds, each counted each time it is reached (what is shared counts as often as it is met; a slice's spare places count too). A statement '..UptoSaid' is the law's where the arguments, and the package variables that the reading takes, are together of bulk at most 1048576: NARROWER than '..Said'. Prove '..Said' where nothing that the law and all that it calls make is longer than what came in: it says more and counts as full. Else prove '..UptoSaid'. A law counts once. -/
mutual
def uptoBulk {H : Type} : DataW H → Nat
  | .lit (.string bytes) => bytes.length + 1
  | .lit _ => 1
  | .nil => 1
  | .ptr d => uptoBulk d + 1
  | .slice elems spare => uptoBulkAll elems + uptoBulkAll spare + 1
  | .agg parts => uptoBulkAll parts + 1
  | .iface _ d => uptoBulk d + 1
  | .map entries => uptoBulkEntries entries + 1
  | .held _ => 1
def uptoBulkAll {H : Type} : List (DataW H) → Nat
  | [] => 0
  | d :: r => uptoBulk d + uptoBulkAll r
def uptoBulkEntries {H : Type} : List (Lit × DataW H) → Nat
  | [] => 0
  | x :: r => uptoBulkEntry x + uptoBulkEntries r
def uptoBulkEntry {H : Type} : Lit × DataW H → Nat
  | (.string bytes, d) => bytes.length + uptoBulk d + 1
  | (_, d) => uptoBulk d + 1
 end
def uptoSmall : (H : Type) → List (DataW H) → Bool := fun _ ds => decide (uptoBulkAll ds ≤ 1048576)
def OpenSpec.upto (s : _root_.Go.ChangeSpec) : _root_.Go.OpenSpec := { _root_.Go.OpenSpec.ofChange s with cond := some uptoSmall }

/-- 'incipitlaw04.FrameFault', WHERE WHAT IT READS IS OF BULK AT MOST 1048576: true; the input reads as it did. -/
def frameFaultUptoRow : OpenClaim := { program := "ytjkghheeeiacmaadoor", sum := "95ac7b912b73df9ab8f0933aa82f86d7598615e3b4f7de37e5a0e956883381e6", func := "incipit/incipitlaw04.FrameFault", spec := "frameFault", named := ["incipit/crc.table"], apart := false, laid := [("incipit/crc.table", laid_incipit_crc_table)], narrowed := true }
def FrameFaultUptoSaid : Prop := frameFaultUptoRow.holds Tryd.pinned (OpenSpec.upto frameFaultSpec)

/-- 'incipitlaw04.FramePlace', WHERE WHAT IT READS IS OF BULK AT MOST 1048576: true; the input reads as it did. -/
def framePlaceUptoRow : OpenClaim := { program := "ytjkghheeeiacmaadoor", sum := "95ac7b912b73df9ab8f0933aa82f86d7598615e3b4f7de37e5a0e956883381e6", func := "incipit/incipitlaw04.FramePlace", spec := "framePlace", named := ["incipit/crc.table"], apart := false, laid := [("incipit/crc.table", laid_incipit_crc_table)], narrowed := true }
def FramePlaceUptoSaid : Prop := framePlaceUptoRow.holds Tryd.pinned (OpenSpec.upto framePlaceSpec)

/-- 'incipitlaw04.FrameGets', WHERE WHAT IT READS IS OF BULK AT MOST 1048576: true; the input reads as it did. -/
def frameGetsUptoRow : OpenClaim := { program := "ytjkghheeeiacmaadoor", sum := "95ac7b912b73df9ab8f0933aa82f86d7598615e3b4f7de37e5a0e956883381e6", func := "incipit/incipitlaw04.FrameGets", spec := "frameGets", named := ["incipit/crc.table"], apart := false, laid := [("incipit/crc.table", laid_incipit_crc_table)], narrowed := true }
def FrameGetsUptoSaid : Prop := frameGetsUptoRow.holds Tryd.pinned (OpenSpec.upto frameGetsSpec)

/-- 'incipitlaw04.FrameBack', WHERE WHAT IT READS IS OF BULK AT MOST 1048576: true; the input reads as it did. -/
def frameBackUptoRow : OpenClaim := { program := "ytjkghheeeiacmaadoor", sum := "95ac7b912b73df9ab8f0933aa82f86d7598615e3b4f7de37e5a0e956883381e6", func := "incipit/incipitlaw04.FrameBack", spec := "frameBack", named := ["incipit/crc.table", "unicode/utf8.first", "unicode/utf8.acceptRanges"], apart := false, laid := [("incipit/crc.table", laid_incipit_crc_table), ("unicode/utf8.acceptRanges", laid_unicode_utf8_acceptRanges), ("unicode/utf8.first", laid_unicode_utf8_first)], narrowed := true }
def FrameBackUptoSaid : Prop := frameBackUptoRow.holds Tryd.pinned (OpenSpec.upto frameBackSpec)

/-- 'incipitlaw04.FramePuts', WHERE WHAT IT READS IS OF BULK AT MOST 1048576: true; the input reads as it did. -/
def framePutsUptoRow : OpenClaim := { program := "ytjkghheeeiacmaadoor", sum := "95ac7b912b73df9ab8f0933aa82f86d7598615e3b4f7de37e5a0e956883381e6", func := "incipit/incipitlaw04.FramePuts", spec := "framePuts", named := ["incipit/crc.table", "unicode/utf8.first", "unicode/utf8.acceptRanges"], apart := false, laid := [("incipit/crc.table", laid_incipit_crc_table), ("unicode/utf8.acceptRanges", laid_unicode_utf8_acceptRanges), ("unicode/utf8.first", laid_unicode_utf8_first)], narrowed := true }
def FramePutsUptoSaid : Prop := framePutsUptoRow.holds Tryd.pinned (OpenSpec.upto framePutsSpec)

end Rows
end Go.Proofs.YtjkghheeeiacmaaDoor
