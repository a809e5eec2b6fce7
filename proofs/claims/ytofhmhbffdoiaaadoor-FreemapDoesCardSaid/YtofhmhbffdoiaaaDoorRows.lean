/-
  NARROWER THAN 'FOR EVERY INPUT', by the rows' own cells (each row's printed sentence says how): FreemapKeeps: laid · FreemapBack: laid · FreemapPuts: laid · FreemapParts: laid · FreemapDoes: laid · FreemapNone: laid.
  DERIVED. THE GIVEN ROWS OF THIS SEAT. 6 by the template 'for every input the law returns true; each argument reads behind the call as it read before'; 0 by the template 'total and deterministic' (their statements: YtofhmhbffdoiaaaDoorTotals.lean).
  GIVEN WITH THE SEED: the statements are not yours to turn. If you find one false, say at which input.
  Laid BY PROGRAM, IN A SANDBOX (cutbox-rows.mjs): the forced cells as the released guide's own fill.sh prints them over the translation ba8cd0bb4575538f… (all of the seat's roots in one cut). By AI agents, Wed Nov 11 2026. No macro, syntax, notation, axiom, sorry.
-/
import Derived.Test.YtofhmhbffdoiaaaDoorChecked
import GoSem.Claim
import GoSem.ClaimJoined
import GoSem.ClaimMapViews
import Derived.JoinedTies
import Derived.KernelRfl
namespace Go.Proofs.YtofhmhbffdoiaaaDoor
/- THE CELL 'sum', in the pinned program and in every row, IS THE sha256 OF THE DUMP (.gsa) THAT YtofhmhbffdoiaaaDoorProg.lean LOADS. Nothing in Lean hashes anything: it is a label: what it is worth is what the hold of that sum in a sandbox is worth. -/
noncomputable def Tryd.pinned : Pinned := { name := "ytofhmhbffdoiaaadoor", sum := "ba8cd0bb4575538f03457385cb4c5e2875d95e2b0f4fc6b1eeca78825b9f07e3", checked := Tryd.checked }
namespace Rows
def none {H : Type} : Left H := { results := [], args := [] }

/- WHAT THE LISTED PACKAGE-LEVEL VARIABLES READ AS WHEN THE CALL BEGINS. Each datum BY PROGRAM (the guide's laid-datum.mjs) off the statement by which the dump's own 'gosem.cut.vars' lays the variable. In a bare row this is a premise. The card (YtofhmhbffdoiaaaDoorCards.lean) ties it to the program's text. -/
def laid_math_bits_deBruijn64tab {H : Type} : DataW H := .agg [.lit (.int .u8 0), .lit (.int .u8 1), .lit (.int .u8 56), .lit (.int .u8 2), .lit (.int .u8 57), .lit (.int .u8 49), .lit (.int .u8 28), .lit (.int .u8 3), .lit (.int .u8 61), .lit (.int .u8 58), .lit (.int .u8 42), .lit (.int .u8 50), .lit (.int .u8 38), .lit (.int .u8 29), .lit (.int .u8 17), .lit (.int .u8 4), .lit (.int .u8 62), .lit (.int .u8 47), .lit (.int .u8 59), .lit (.int .u8 36), .lit (.int .u8 45), .lit (.int .u8 43), .lit (.int .u8 51), .lit (.int .u8 22), .lit (.int .u8 53), .lit (.int .u8 39), .lit (.int .u8 33), .lit (.int .u8 30), .lit (.int .u8 24), .lit (.int .u8 18), .lit (.int .u8 12), .lit (.int .u8 5), .lit (.int .u8 63), .lit (.int .u8 55), .lit (.int .u8 48), .lit (.int .u8 27), .lit (.int .u8 60), .lit (.int .u8 41), .lit (.int .u8 37), .lit (.int .u8 16), .lit (.int .u8 46), .lit (.int .u8 35), .lit (.int .u8 44), .lit (.int .u8 21), .lit (.int .u8 52), .lit (.int .u8 32), .lit (.int .u8 23), .lit (.int .u8 11), .lit (.int .u8 54), .lit (.int .u8 26), .lit (.int .u8 40), .lit (.int .u8 15), .lit (.int .u8 34), .lit (.int .u8 20), .lit (.int .u8 31), .lit (.int .u8 10), .lit (.int .u8 25), .lit (.int .u8 14), .lit (.int .u8 19), .lit (.int .u8 9), .lit (.int .u8 13), .lit (.int .u8 8), .lit (.int .u8 7), .lit (.int .u8 6)]

/-- 'incipitlaw08.FreemapKeeps': WHATEVER THE INPUT: true; the input reads as it did. -/
def freemapKeepsSpec : ChangeSpec := { name := "freemapKeeps", fn := fun _ => fun
  | [d1, d2, d3] => { results := [.lit (.bool true)], args := [d1, d2, d3] }
  | _ => none }
def freemapKeepsRow : OpenClaim := { program := "ytofhmhbffdoiaaadoor", sum := "ba8cd0bb4575538f03457385cb4c5e2875d95e2b0f4fc6b1eeca78825b9f07e3", func := "incipit/incipitlaw08.FreemapKeeps", spec := "freemapKeeps", unfollowed := true, recurses := true, named := ["math/bits.deBruijn64tab"], apart := false, laid := [("math/bits.deBruijn64tab", laid_math_bits_deBruijn64tab)] }
def FreemapKeepsSaid : Prop := freemapKeepsRow.holds Tryd.pinned (OpenSpec.ofChange freemapKeepsSpec)

/-- ITS FALSE NEIGHBOUR: 'it returns false'. Refute it at one input. -/
def freemapKeepsWrong : ChangeSpec := { name := "freemapKeeps", fn := fun _ => fun
  | [d1, d2, d3] => { results := [.lit (.bool false)], args := [d1, d2, d3] }
  | _ => none }
def FreemapKeepsWrongFalsely : Prop := freemapKeepsRow.holds Tryd.pinned (OpenSpec.ofChange freemapKeepsWrong)

/-- 'incipitlaw08.FreemapBack': WHATEVER THE INPUT: true; the input reads as it did. -/
def freemapBackSpec : ChangeSpec := { name := "freemapBack", fn := fun _ => fun
  | [d1, d2] => { results := [.lit (.bool true)], args := [d1, d2] }
  | _ => none }
def freemapBackRow : OpenClaim := { program := "ytofhmhbffdoiaaadoor", sum := "ba8cd0bb4575538f03457385cb4c5e2875d95e2b0f4fc6b1eeca78825b9f07e3", func := "incipit/incipitlaw08.FreemapBack", spec := "freemapBack", unfollowed := true, recurses := true, named := ["math/bits.deBruijn64tab"], apart := false, laid := [("math/bits.deBruijn64tab", laid_math_bits_deBruijn64tab)] }
def FreemapBackSaid : Prop := freemapBackRow.holds Tryd.pinned (OpenSpec.ofChange freemapBackSpec)

/-- ITS FALSE NEIGHBOUR: 'it returns false'. Refute it at one input. -/
def freemapBackWrong : ChangeSpec := { name := "freemapBack", fn := fun _ => fun
  | [d1, d2] => { results := [.lit (.bool false)], args := [d1, d2] }
  | _ => none }
def FreemapBackWrongFalsely : Prop := freemapBackRow.holds Tryd.pinned (OpenSpec.ofChange freemapBackWrong)

/-- 'incipitlaw08.FreemapPuts': WHATEVER THE INPUT: true; the input reads as it did. -/
def freemapPutsSpec : ChangeSpec := { name := "freemapPuts", fn := fun _ => fun
  | [d1, d2, d3, d4] => { results := [.lit (.bool true)], args := [d1, d2, d3, d4] }
  | _ => none }
def freemapPutsRow : OpenClaim := { program := "ytofhmhbffdoiaaadoor", sum := "ba8cd0bb4575538f03457385cb4c5e2875d95e2b0f4fc6b1eeca78825b9f07e3", func := "incipit/incipitlaw08.FreemapPuts", spec := "freemapPuts", unfollowed := true, recurses := true, named := ["math/bits.deBruijn64tab"], apart := false, laid := [("math/bits.deBruijn64tab", laid_math_bits_deBruijn64tab)] }
def FreemapPutsSaid : Prop := freemapPutsRow.holds Tryd.pinned (OpenSpec.ofChange freemapPutsSpec)

/-- ITS FALSE NEIGHBOUR: 'it returns false'. Refute it at one input. -/
def freemapPutsWrong : ChangeSpec := { name := "freemapPuts", fn := fun _ => fun
  | [d1, d2, d3, d4] => { results := [.lit (.bool false)], args := [d1, d2, d3, d4] }
  | _ => none }
def FreemapPutsWrongFalsely : Prop := freemapPutsRow.holds Tryd.pinned (OpenSpec.ofChange freemapPutsWrong)

/-- 'incipitlaw08.FreemapParts': WHATEVER THE INPUT: true; the input reads as it did. -/
def freemapPartsSpec : ChangeSpec := { name := "freemapParts", fn := fun _ => fun
  | [d1, d2, d3] => { results := [.lit (.bool true)], args := [d1, d2, d3] }
  | _ => none }
def freemapPartsRow : OpenClaim := { program := "ytofhmhbffdoiaaadoor", sum := "ba8cd0bb4575538f03457385cb4c5e2875d95e2b0f4fc6b1eeca78825b9f07e3", func := "incipit/incipitlaw08.FreemapParts", spec := "freemapParts", unfollowed := true, recurses := true, named := ["math/bits.deBruijn64tab"], apart := false, laid := [("math/bits.deBruijn64tab", laid_math_bits_deBruijn64tab)] }
def FreemapPartsSaid : Prop := freemapPartsRow.holds Tryd.pinned (OpenSpec.ofChange freemapPartsSpec)

/-- ITS FALSE NEIGHBOUR: 'it returns false'. Refute it at one input. -/
def freemapPartsWrong : ChangeSpec := { name := "freemapParts", fn := fun _ => fun
  | [d1, d2, d3] => { results := [.lit (.bool false)], args := [d1, d2, d3] }
  | _ => none }
def FreemapPartsWrongFalsely : Prop := freemapPartsRow.holds Tryd.pinned (OpenSpec.ofChange freemapPartsWrong)

/-- 'incipitlaw08.FreemapDoes': WHATEVER THE INPUT: true; the input reads as it did. -/
def freemapDoesSpec : ChangeSpec := { name := "freemapDoes", fn := fun _ => fun
  | [d1, d2, d3] => { results := [.lit (.bool true)], args := [d1, d2, d3] }
  | _ => none }
def freemapDoesRow : OpenClaim := { program := "ytofhmhbffdoiaaadoor", sum := "ba8cd0bb4575538f03457385cb4c5e2875d95e2b0f4fc6b1eeca78825b9f07e3", func := "incipit/incipitlaw08.FreemapDoes", spec := "freemapDoes", unfollowed := true, recurses := true, named := ["math/bits.deBruijn64tab"], apart := false, laid := [("math/bits.deBruijn64tab", laid_math_bits_deBruijn64tab)] }
def FreemapDoesSaid : Prop := freemapDoesRow.holds Tryd.pinned (OpenSpec.ofChange freemapDoesSpec)

/-- ITS FALSE NEIGHBOUR: 'it returns false'. Refute it at one input. -/
def freemapDoesWrong : ChangeSpec := { name := "freemapDoes", fn := fun _ => fun
  | [d1, d2, d3] => { results := [.lit (.bool false)], args := [d1, d2, d3] }
  | _ => none }
def FreemapDoesWrongFalsely : Prop := freemapDoesRow.holds Tryd.pinned (OpenSpec.ofChange freemapDoesWrong)

/-- 'incipitlaw08.FreemapNone': WHATEVER THE INPUT: true; the input reads as it did. -/
def freemapNoneSpec : ChangeSpec := { name := "freemapNone", fn := fun _ => fun
  | [d] => { results := [.lit (.bool true)], args := [d] }
  | _ => none }
def freemapNoneRow : OpenClaim := { program := "ytofhmhbffdoiaaadoor", sum := "ba8cd0bb4575538f03457385cb4c5e2875d95e2b0f4fc6b1eeca78825b9f07e3", func := "incipit/incipitlaw08.FreemapNone", spec := "freemapNone", unfollowed := true, recurses := true, named := ["math/bits.deBruijn64tab"], apart := false, laid := [("math/bits.deBruijn64tab", laid_math_bits_deBruijn64tab)] }
def FreemapNoneSaid : Prop := freemapNoneRow.holds Tryd.pinned (OpenSpec.ofChange freemapNoneSpec)

/-- ITS FALSE NEIGHBOUR: 'it returns false'. Refute it at one input. -/
def freemapNoneWrong : ChangeSpec := { name := "freemapNone", fn := fun _ => fun
  | [d] => { results := [.lit (.bool false)], args := [d] }
  | _ => none }
def FreemapNoneWrongFalsely : Prop := freemapNoneRow.holds Tryd.pinned (OpenSpec.ofChange freemapNoneWrong)

/- THE SECOND FORM. 'bulk': how many values and letters a reading holds, each counted each time it is reached (what is shared counts as often as it is met; a slice's spare places count too). A statement '..UptoSaid' is the law's where the arguments, and the package variables that the reading takes, are together of bulk at most 1048576: NARROWER than '..Said'. Prove '..Said' where nothing that the law and all that it calls make is longer than what came in: it says more and counts as full. Else prove '..UptoSaid'. A law counts once. -/
mutual
def uptoBulk {H : Type} : DataW H → Nat
  | .lit (.string bytes) => bytes.length + 1
  | .lit _ => 1
  | .nil => 1
  | .ptr d => uptoBulk d + 1
  | .slice elems spare => uptoBulkAll elems + uptoBulkAll spare + 1
  | .agg parts => uptoBulkAll parts + 1
  | .iface _ d => uptoBulk d + 1
  | .map entries => uptoBulkEntries entries + 1
  | .held _ => 1
def uptoBulkAll {H : Type} : List (DataW H) → Nat
  | [] => 0
  | d :: r => uptoBulk d + uptoBulkAll r
def uptoBulkEntries {H : Type} : List (Lit × DataW H) → Nat
  | [] => 0
  | x :: r => uptoBulkEntry x + uptoBulkEntries r
def uptoBulkEntry {H : Type} : Lit × DataW H → Nat
  | (.string bytes, d) => bytes.length + uptoBulk d + 1
  | (_, d) => uptoBulk d + 1
 end
def uptoSmall : (H : Type) → List (DataW H) → Bool := fun _ ds => decide (uptoBulkAll ds ≤ 1048576)
def OpenSpec.upto (s : _root_.Go.ChangeSpec) : _root_.Go.OpenSpec := { _root_.Go.OpenSpec.ofChange s with cond := some uptoSmall }

/-- 'incipitlaw08.FreemapKeeps', WHERE WHAT IT READS IS OF BULK AT MOST 1048576: true; the input reads as it did. -/
def freemapKeepsUptoRow : OpenClaim := { program := "ytofhmhbffdoiaaadoor", sum := "ba8cd0bb4575538f03457385cb4c5e2875d95e2b0f4fc6b1eeca78825b9f07e3", func := "incipit/incipitlaw08.FreemapKeeps", spec := "freemapKeeps", unfollowed := true, recurses := true, named := ["math/bits.deBruijn64tab"], apart := false, laid := [("math/bits.deBruijn64tab", laid_math_bits_deBruijn64tab)], narrowed := true }
def FreemapKeepsUptoSaid : Prop := freemapKeepsUptoRow.holds Tryd.pinned (OpenSpec.upto freemapKeepsSpec)

/-- 'incipitlaw08.FreemapBack', WHERE WHAT IT READS IS OF BULK AT MOST 1048576: true; the input reads as it did. -/
def freemapBackUptoRow : OpenClaim := { program := "ytofhmhbffdoiaaadoor", sum := "ba8cd0bb4575538f03457385cb4c5e2875d95e2b0f4fc6b1eeca78825b9f07e3", func := "incipit/incipitlaw08.FreemapBack", spec := "freemapBack", unfollowed := true, recurses := true, named := ["math/bits.deBruijn64tab"], apart := false, laid := [("math/bits.deBruijn64tab", laid_math_bits_deBruijn64tab)], narrowed := true }
def FreemapBackUptoSaid : Prop := freemapBackUptoRow.holds Tryd.pinned (OpenSpec.upto freemapBackSpec)

/-- 'incipitlaw08.FreemapPuts', WHERE WHAT IT READS IS OF BULK AT MOST 1048576: true; the input reads as it did. -/
def freemapPutsUptoRow : OpenClaim := { program := "ytofhmhbffdoiaaadoor", sum := "ba8cd0bb4575538f03457385cb4c5e2875d95e2b0f4fc6b1eeca78825b9f07e3", func := "incipit/incipitlaw08.FreemapPuts", spec := "freemapPuts", unfollowed := true, recurses := true, named := ["math/bits.deBruijn64tab"], apart := false, laid := [("math/bits.deBruijn64tab", laid_math_bits_deBruijn64tab)], narrowed := true }
def FreemapPutsUptoSaid : Prop := freemapPutsUptoRow.holds Tryd.pinned (OpenSpec.upto freemapPutsSpec)

/-- 'incipitlaw08.FreemapParts', WHERE WHAT IT READS IS OF BULK AT MOST 1048576: true; the input reads as it did. -/
def freemapPartsUptoRow : OpenClaim := { program := "ytofhmhbffdoiaaadoor", sum := "ba8cd0bb4575538f03457385cb4c5e2875d95e2b0f4fc6b1eeca78825b9f07e3", func := "incipit/incipitlaw08.FreemapParts", spec := "freemapParts", unfollowed := true, recurses := true, named := ["math/bits.deBruijn64tab"], apart := false, laid := [("math/bits.deBruijn64tab", laid_math_bits_deBruijn64tab)], narrowed := true }
def FreemapPartsUptoSaid : Prop := freemapPartsUptoRow.holds Tryd.pinned (OpenSpec.upto freemapPartsSpec)

/-- 'incipitlaw08.FreemapDoes', WHERE WHAT IT READS IS OF BULK AT MOST 1048576: true; the input reads as it did. -/
def freemapDoesUptoRow : OpenClaim := { program := "ytofhmhbffdoiaaadoor", sum := "ba8cd0bb4575538f03457385cb4c5e2875d95e2b0f4fc6b1eeca78825b9f07e3", func := "incipit/incipitlaw08.FreemapDoes", spec := "freemapDoes", unfollowed := true, recurses := true, named := ["math/bits.deBruijn64tab"], apart := false, laid := [("math/bits.deBruijn64tab", laid_math_bits_deBruijn64tab)], narrowed := true }
def FreemapDoesUptoSaid : Prop := freemapDoesUptoRow.holds Tryd.pinned (OpenSpec.upto freemapDoesSpec)

/-- 'incipitlaw08.FreemapNone', WHERE WHAT IT READS IS OF BULK AT MOST 1048576: true; the input reads as it did. -/
def freemapNoneUptoRow : OpenClaim := { program := "ytofhmhbffdoiaaadoor", sum := "ba8cd0bb4575538f03457385cb4c5e2875d95e2b0f4fc6b1eeca78825b9f07e3", func := "incipit/incipitlaw08.FreemapNone", spec := "freemapNone", unfollowed := true, recurses := true, named := ["math/bits.deBruijn64tab"], apart := false, laid := [("math/bits.deBruijn64tab", laid_math_bits_deBruijn64tab)], narrowed := true }
def FreemapNoneUptoSaid : Prop := freemapNoneUptoRow.holds Tryd.pinned (OpenSpec.upto freemapNoneSpec)

end Rows
end Go.Proofs.YtofhmhbffdoiaaaDoor
