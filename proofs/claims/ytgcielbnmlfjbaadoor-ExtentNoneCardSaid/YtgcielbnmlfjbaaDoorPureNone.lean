/- The plain law of ExtentNone: what the call computes is true, whatever is handed in. -/
import Derived.Test.YtgcielbnmlfjbaaDoorNG
import Derived.Test.YtgcielbnmlfjbaaDoorSXu
namespace Go.Proofs.YtgcielbnmlfjbaaDoor
open Go Go.SX
set_option maxRecDepth 100000
def emp : T_extent_Set := ⟨0, []⟩
theorem run_nil (p : Int) : g15 p = some (-1) := by
  unfold g15
  by_cases h : p < 1
  · rw [if_pos h]
  · rw [if_neg h]
    kernel_rfl
theorem run_emp (p : Int) : g15_1 emp p = some (-1) := by
  unfold g15_1
  by_cases h : p < 1
  · rw [if_pos h]
  · rw [if_neg h]
    kernel_rfl
theorem add_emp (p : Int) : g22_1 emp p = some (2, emp) := by kernel_rfl
theorem drop_emp (p : Int) : g23_1 emp p = some (2, emp) := by kernel_rfl
theorem has_emp (p : Int) : g13_1 emp p = some false := by kernel_rfl
theorem first_emp (p : Int) : g27_1 emp p = some (-1) := by kernel_rfl
theorem size_emp : g17_1 emp = some 0 := by kernel_rfl
theorem len_emp : g14_1 emp = some 0 := by kernel_rfl
theorem live_ok : g8 = some true := by kernel_rfl
theorem not_emp : g16_1 emp = some none := by kernel_rfl
theorem clone_emp : g21_1 emp = some none := by kernel_rfl
theorem same_emp : g18_1 emp = some true := by kernel_rfl
theorem optC_none {α β : Type} (a : Option β) (f : α → Option β) : optC none a f = a := rfl
theorem second (p : Int) : g7_j3 p [] [] [] = some true := by
  unfold g7_j3
  rw [show T_extent_Set.mk 0 [] = emp from rfl, size_emp, Option.bind_some, len_emp, Option.bind_some, if_neg (by decide), add_emp, Option.bind_some, if_neg (by decide), drop_emp, Option.bind_some, if_neg (by decide)]
  rw [has_emp, Option.bind_some, if_neg (by decide), first_emp, Option.bind_some, if_neg (by decide), run_emp, Option.bind_some, if_neg (by decide), first_emp, Option.bind_some]
  show g7_l6B _ _ _ _ _ _ _ _ _ (-1) [] = _
  unfold g7_l6B
  rw [if_neg (by decide)]
  unfold g7_j5
  rw [if_neg (by decide), if_neg (by decide), not_emp, Option.bind_some]
  rw [optC_none]
  show ((g21_1 emp).bind fun x => _) = _
  rw [clone_emp, Option.bind_some, optC_none]
  show ((g18_1 emp).bind fun x => _) = _
  rw [same_emp, Option.bind_some]
  unfold g7_j4
  rw [if_neg (by decide), live_ok, Option.bind_some, if_pos rfl]
  kernel_rfl
theorem first_nil (p : Int) : g27 p = some (-1) := by kernel_rfl
theorem not_nil : g16 = some () := by kernel_rfl
theorem size_nil : g17 = some 0 := by kernel_rfl
theorem len_nil : g14 = some 0 := by kernel_rfl
theorem add_nil (p : Int) : g22 p = some 2 := by kernel_rfl
theorem drop_nil (p : Int) : g23 p = some 2 := by kernel_rfl
theorem has_nil (p : Int) : g13 p = some false := by kernel_rfl
theorem clone_nil : g21 = some () := by kernel_rfl
theorem same_nil : g18 = some true := by kernel_rfl
theorem Pure.ExtentNone (p0 : Int) (_ : (Lit.int .i64 p0).wf = true) : g7 p0 = some true := by
  unfold g7
  rw [not_nil, Option.bind_some, first_nil, Option.bind_some]
  show g7_l13B _ _ (-1) [] [] = _
  unfold g7_l13B
  rw [if_neg (by decide)]
  unfold g7_j1
  rw [size_nil, Option.bind_some, len_nil, Option.bind_some, if_neg (by decide), add_nil, Option.bind_some, if_neg (by decide), drop_nil, Option.bind_some, if_neg (by decide)]
  rw [has_nil, Option.bind_some, if_neg (by decide), first_nil, Option.bind_some, if_neg (by decide), run_nil, Option.bind_some, if_neg (by decide), first_nil, Option.bind_some]
  show g7_l12B _ _ _ _ _ _ _ _ _ _ (-1) [] = _
  unfold g7_l12B
  rw [if_neg (by decide)]
  unfold g7_j11
  rw [if_neg (by decide), if_neg (by decide), not_nil, Option.bind_some, clone_nil, Option.bind_some, same_nil, Option.bind_some]
  unfold g7_j2
  rw [if_neg (by decide)]
  show ((g16_1 emp).bind fun x => _) = _
  rw [not_emp, Option.bind_some, optC_none]
  show ((g27_1 emp 0).bind fun x => _) = _
  rw [first_emp, Option.bind_some]
  show g7_l7B _ _ (-1) [] [] = _
  unfold g7_l7B
  rw [if_neg (by decide)]
  exact second p0
end Go.Proofs.YtgcielbnmlfjbaaDoor
