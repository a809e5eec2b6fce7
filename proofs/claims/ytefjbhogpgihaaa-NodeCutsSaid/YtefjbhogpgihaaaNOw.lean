/- Plain laws of node: own memory, same nodes. -/
import Derived.Test.YtefjbhogpgihaaaNRw
set_option linter.unusedVariables false
set_option maxRecDepth 20000
namespace Go.Proofs.Ytefjbhogpgihaaa
open Go Go.SX
/-! ### own -/
theorem concat_two (b : List Int) (hb : b.length ≤ 1000) : g95 ([[], b] : List (List Int)) = some b := by
  obtain ⟨f, hF⟩ : ∃ f, FUEL = f + 3 := ⟨FUEL - 3, by unfold FUEL; decide⟩
  have a0 : appI ([] : List Int) [] 1 = some [] := by rw [appI_ok (by simp)]; rfl
  have a1 : appI ([] : List Int) b 1 = some b := by rw [appI_ok (by simp; omega)]; rfl
  have l3 : g95_l3 ([[], b] : List (List Int)) FUEL [] 0 = some b := by
    rw [hF]
    show g95_l3B ([[], b] : List (List Int)) (g95_l3 ([[], b] : List (List Int)) (f + 2)) [] 0 = _
    unfold g95_l3B
    rw [if_pos (by simp), show getI ([[], b] : List (List Int)) 0 = some [] from rfl, Option.bind_some, a0, Option.bind_some]
    show g95_l3B ([[], b] : List (List Int)) (g95_l3 ([[], b] : List (List Int)) (f + 1)) [] 1 = _
    unfold g95_l3B
    rw [if_pos (by simp), show getI ([[], b] : List (List Int)) 1 = some b from rfl, Option.bind_some, a1, Option.bind_some]
    show g95_l3B ([[], b] : List (List Int)) (g95_l3 ([[], b] : List (List Int)) f) b 2 = _
    unfold g95_l3B
    rw [if_neg (by simp)]
  unfold g95
  rw [hF]
  show g95_l1B ([[], b] : List (List Int)) (g95_l1 ([[], b] : List (List Int)) (f + 2)) 0 0 = _
  unfold g95_l1B
  rw [if_pos (by simp), show getI ([[], b] : List (List Int)) 0 = some [] from rfl, Option.bind_some, show IntKind.i64.wrap ((0 : Int) + (([] : List Int).length : Int)) = 0 from rfl, if_neg (by decide)]
  show g95_l1B ([[], b] : List (List Int)) (g95_l1 ([[], b] : List (List Int)) (f + 1)) 0 1 = _
  unfold g95_l1B
  rw [if_pos (by simp), show getI ([[], b] : List (List Int)) 1 = some b from rfl, Option.bind_some, i64_in ((0 : Int) + (b.length : Int)) (by omega), if_neg (by omega), Int.zero_add]
  show g95_l1B ([[], b] : List (List Int)) (g95_l1 ([[], b] : List (List Int)) f) (b.length : Int) 2 = _
  unfold g95_l1B
  rw [if_neg (by simp), if_neg (by omega), i64_in ((b.length : Int) - 0) (by omega), Int.sub_zero]
  unfold g95_j2
  by_cases h : (b.length : Int) > 0
  · rw [if_pos h, show appZI ([] : List Int) (b.length : Int) 0 1 = some (List.replicate b.length 0) from (by
      unfold appZI
      rw [if_pos (by simp; omega)]
      simp), Option.bind_some, if_pos (by omega)]
    exact l3
  · rw [if_neg h]
    exact l3
theorem own_ok (b : List Int) (hb : b.length ≤ 1000) : g60 b = some b := by unfold g60; rw [concat_two b hb]; rfl
theorem ownPair_ok {p : T_api_Pair} (h1 : p.Key.length ≤ 1000) (h2 : p.Val.length ≤ 1000) : g57 p = some p := by
  unfold g57
  rw [own_ok _ h1, Option.bind_some, own_ok _ h2]
  rfl
/-! ### Same -/
theorem refSame_refl {n : T_api_Node} (hf : Fine n) : g20 n n = some true := by
  obtain ⟨f1, f2, f3⟩ := hf
  have l4 : g20_l4 n n FUEL 0 = some true := by
    have := scanC (xs := n.Kids) (fun _ => False) (g20_l4 n n) (fun _ => some false) (some false) (some true) (by unfold FUEL; omega) (fun _ _ => rfl)
      (fun f i x hx => by
        have hi := (List.getElem?_eq_some_iff.1 hx).1
        show g20_l4B n n (g20_l4 n n f) (i : Int) = _
        unfold g20_l4B
        rw [if_pos (by omega), getI_nat, hx, Option.bind_some, Option.bind_some, if_neg (by simp), if_neg (fun h => h), i64_in _ (by omega), show (i : Int) + 1 = ((i + 1 : Nat) : Int) by omega])
      (fun f => by
        show g20_l4B n n (g20_l4 n n f) (n.Kids.length : Int) = _
        unfold g20_l4B
        rw [if_neg (by omega)])
    rw [this, if_pos (fun _ _ h => h)]
  have l3 : g20_l3 n n FUEL 0 = some true := by
    have := scanC (xs := n.Keys) (fun _ => False) (g20_l3 n n) (fun _ => some false) (some false) (some true) (by unfold FUEL; omega) (fun _ _ => rfl)
      (fun f i x hx => by
        have hi := (List.getElem?_eq_some_iff.1 hx).1
        show g20_l3B n n (g20_l3 n n f) (i : Int) = _
        unfold g20_l3B
        rw [if_pos (by omega), getI_nat, hx, Option.bind_some, Option.bind_some, if_neg (by simp), if_neg (fun h => h), i64_in _ (by omega), show (i : Int) + 1 = ((i + 1 : Nat) : Int) by omega])
      (fun f => by
        show g20_l3B n n (g20_l3 n n f) (n.Keys.length : Int) = _
        unfold g20_l3B
        rw [if_neg (by omega), l4])
    rw [this, if_pos (fun _ _ h => h)]
  unfold g20 g20_j1
  rw [if_neg (by simp), if_neg (by simp), if_neg (by simp), if_neg (by simp)]
  have := scanC (xs := n.Pairs) (fun _ => False) (g20_l2 n n) (fun _ => some false) (some false) (some true) (by unfold FUEL; omega) (fun _ _ => rfl)
    (fun f i x hx => by
      have hi := (List.getElem?_eq_some_iff.1 hx).1
      show g20_l2B n n (g20_l2 n n f) (i : Int) = _
      unfold g20_l2B
      rw [if_pos (by omega), getI_nat, hx, Option.bind_some, Option.bind_some, if_neg (by simp), Option.bind_some, Option.bind_some, if_neg (by simp), if_neg (fun h => h), i64_in _ (by omega), show (i : Int) + 1 = ((i + 1 : Nat) : Int) by omega])
    (fun f => by
      show g20_l2B n n (g20_l2 n n f) (n.Pairs.length : Int) = _
      unfold g20_l2B
      rw [if_neg (by omega), l3])
  rw [this, if_pos (fun _ _ h => h)]
end Go.Proofs.Ytefjbhogpgihaaa
