/- Plain laws of node for the print of VX, part 9: the document's copy. -/
import Derived.Test.YtefjbhogpgihaaaHH
namespace Go.Proofs.Ytefjbhogpgihaaa
open Go Go.SX Go.VX
set_option maxRecDepth 100000
set_option linter.unusedVariables false
set_option linter.unusedSimpArgs false
theorem rown_ok (b : List Int) (hb : b.length ≤ 1000) : s58 b = some ((), b) := by
  unfold s58 s58F
  rw [appI_ok (by simp; omega)]
  rfl
theorem rClone_ok {n : T_api_Node} (hw : fewN n) : s24 n = some ((n.Leaf, (), (), ()), (n.Pairs, n.Keys, n.Kids)) := by
  obtain ⟨w1, w2, w3, w4, w5⟩ := hw
  have l3 : ∀ (fuel i : Nat), i ≤ n.Keys.length → n.Keys.length - i < fuel → s24_l2 fuel (i : Int) n.Leaf n.Pairs n.Keys n.Kids false n.Leaf n.Pairs (n.Keys.take i) n.Kids = some ((n.Leaf, (), (), ()), (n.Pairs, n.Keys, n.Kids)) := by
    intro fuel
    induction fuel with
    | zero => intro i _ h; omega
    | succ f ih =>
      intro i hi hf
      show s24_l2B (s24_l2 f) (i : Int) n.Leaf n.Pairs n.Keys n.Kids false n.Leaf n.Pairs (n.Keys.take i) n.Kids = _
      unfold s24_l2B
      by_cases h : i < n.Keys.length
      · have hk := w5 _ (List.getElem_mem h)
        rw [if_pos (by omega), getI_nat, List.getElem?_eq_getElem h, Option.bind_some, rown_ok _ (by omega), Option.bind_some]
        simp only [Option.bind_some]
        rw [appI_ok (by simp; omega), Option.bind_some, List.take_append_getElem h, i64_in _ (by omega), show (i : Int) + 1 = ((i + 1 : Nat) : Int) by omega]
        exact ih (i + 1) (by omega) (by omega)
      · rw [if_neg (by omega), List.take_of_length_le (by omega)]
  have l2 : ∀ (fuel i : Nat), i ≤ n.Pairs.length → n.Pairs.length - i < fuel → s24_l1 fuel (i : Int) n.Leaf n.Pairs n.Keys n.Kids false n.Leaf (n.Pairs.take i) n.Kids = some ((n.Leaf, (), (), ()), (n.Pairs, n.Keys, n.Kids)) := by
    intro fuel
    induction fuel with
    | zero => intro i _ h; omega
    | succ f ih =>
      intro i hi hf
      show s24_l1B (s24_l1 f) (s24_l2 FUEL) (i : Int) n.Leaf n.Pairs n.Keys n.Kids false n.Leaf (n.Pairs.take i) n.Kids = _
      unfold s24_l1B
      by_cases h : i < n.Pairs.length
      · have hk := w4 _ (List.getElem_mem h)
        rw [if_pos (by omega), getI_nat, List.getElem?_eq_getElem h, Option.bind_some, rown_ok _ (by omega), Option.bind_some]
        simp only [Option.bind_some]
        rw [rown_ok _ (by omega)]
        simp only [Option.bind_some]
        rw [appI_ok (by simp; omega), Option.bind_some, List.take_append_getElem h, i64_in _ (by omega), show (i : Int) + 1 = ((i + 1 : Nat) : Int) by omega]
        exact ih (i + 1) (by omega) (by omega)
      · rw [if_neg (by omega), List.take_of_length_le (by omega)]
        have := l3 FUEL 0 (by omega) (by unfold FUEL; omega)
        rw [List.take_zero] at this
        exact this
  have := l2 FUEL 0 (by omega) (by unfold FUEL; omega)
  rw [List.take_zero] at this
  unfold s24 s24F
  rw [appI_ok (by simp; omega), Option.bind_some]
  generalize FUEL = F at this ⊢
  exact this
end Go.Proofs.Ytefjbhogpgihaaa
