/- Plain laws of node for the print of VX, part 3: copies of one's own; few; both halves. -/
import Derived.Test.YtefjbhogpgihaaaHB
namespace Go.Proofs.Ytefjbhogpgihaaa
open Go Go.SX Go.VX
set_option maxRecDepth 100000
set_option linter.unusedVariables false
set_option linter.unusedSimpArgs false
theorem concat_two (b : List Int) (hb : b.length ≤ 1000) : s95 ([[], b] : List (List Int)) = some ((0, (b.length : Int)), b) := by
  obtain ⟨f, hF⟩ : ∃ f, FUEL = f + 3 := ⟨FUEL - 3, by unfold FUEL; decide⟩
  have a0 : appI ([] : List Int) [] 1 = some [] := by rw [appI_ok (by simp)]; rfl
  have a1 : appI ([] : List Int) b 1 = some b := by rw [appI_ok (by simp; omega)]; rfl
  have l3 : ∀ zs : List Int, s95_l2 FUEL 0 0 ([[], b] : List (List Int)) (([[], b] : List (List Int)).length : Int) 0 zs = some ((0, (b.length : Int)), b) := by
    intro zs
    rw [hF]
    show s95_l2B (s95_l2 (f + 2)) 0 0 ([[], b] : List (List Int)) (([[], b] : List (List Int)).length : Int) 0 zs = _
    unfold s95_l2B
    rw [if_pos (by simp), show getI ([[], b] : List (List Int)) 0 = some [] from rfl, Option.bind_some, if_pos rfl, show cutI zs 0 0 = some [] from (by have := cutI_to (xs := zs) (h := 0) (by omega); simpa using this), Option.bind_some, a0, Option.bind_some]
    show s95_l2B (s95_l2 (f + 1)) 0 0 ([[], b] : List (List Int)) (([[], b] : List (List Int)).length : Int) 1 [] = _
    unfold s95_l2B
    rw [if_pos (by simp), show getI ([[], b] : List (List Int)) 1 = some b from rfl, Option.bind_some, if_pos rfl, show cutI ([] : List Int) 0 0 = some [] from rfl, Option.bind_some, a1, Option.bind_some]
    show s95_l2B (s95_l2 f) 0 (b.length : Int) ([[], b] : List (List Int)) (([[], b] : List (List Int)).length : Int) 2 b = _
    unfold s95_l2B
    rw [if_neg (by simp)]
  show s95_l1 FUEL ([[], b] : List (List Int)) 0 ([[], b] : List (List Int)) 2 0 = _
  rw [hF]
  show s95_l1B (s95_l1 (f + 2)) (s95_l2 FUEL) ([[], b] : List (List Int)) 0 ([[], b] : List (List Int)) 2 0 = _
  unfold s95_l1B
  rw [if_pos (by decide), show getI ([[], b] : List (List Int)) 0 = some [] from rfl, Option.bind_some, show IntKind.i64.wrap ((0 : Int) + (([] : List Int).length : Int)) = 0 from rfl, if_neg (by decide)]
  show s95_l1B (s95_l1 (f + 1)) (s95_l2 FUEL) ([[], b] : List (List Int)) 0 ([[], b] : List (List Int)) 2 1 = _
  unfold s95_l1B
  rw [if_pos (by decide), show getI ([[], b] : List (List Int)) 1 = some b from rfl, Option.bind_some, i64_in ((0 : Int) + (b.length : Int)) (by omega), if_neg (by omega), Int.zero_add]
  show s95_l1B (s95_l1 f) (s95_l2 FUEL) ([[], b] : List (List Int)) (b.length : Int) ([[], b] : List (List Int)) 2 2 = _
  unfold s95_l1B
  rw [if_neg (by decide)]
  have g : ∃ zs : List Int, s111 (b.length : Int) = some ((0, 0), zs) := by
    unfold s111 s111F
    rw [if_neg (by omega), i64_in ((b.length : Int) - 0) (by omega), Int.sub_zero]
    by_cases h : (b.length : Int) > 0
    · refine ⟨List.replicate b.length 0, ?_⟩
      rw [if_pos h, if_pos rfl, show appZI (τ := Int) ([] : List Int) (b.length : Int) 0 1 = some (List.replicate b.length 0) from (by
        unfold appZI
        rw [if_pos (by simp; omega)]
        simp), Option.bind_some, if_pos (by omega)]
      rfl
    · exact ⟨[], by rw [if_neg h]; rfl⟩
  obtain ⟨zs, g⟩ := g
  rw [g]
  rw [Option.bind_some, Option.bind_some, Option.bind_some, Option.bind_some]
  generalize FUEL = F at l3 ⊢
  exact l3 zs
theorem own_ok (b : List Int) (hb : b.length ≤ 1000) : s60 b = some ((0, (b.length : Int)), b) := by
  unfold s60 s60F
  rw [concat_two b hb]
  rfl
theorem cut_all {τ : Type} (b : List τ) : cutI b 0 (b.length : Int) = some b := by
  have := cutI_to (xs := b) (h := b.length) (Nat.le_refl _)
  rw [List.take_length] at this
  exact this
/-- What few asks of a node. -/
def fewN (n : T_api_Node) : Prop := n.Pairs.length ≤ 300 ∧ n.Keys.length ≤ 300 ∧ n.Kids.length ≤ 300 ∧ (∀ p ∈ n.Pairs, p.Key.length ≤ 300 ∧ p.Val.length ≤ 300) ∧ ∀ k ∈ n.Keys, k.length ≤ 300
theorem fewN.fine {n : T_api_Node} (h : fewN n) : Fine n := ⟨by have := h.1; omega, by have := h.2.1; omega, by have := h.2.2.1; omega⟩
theorem MayP.few {n : T_api_Node} (m : MayP n) : fewN n := by
  have hk := rise_keys _ _ m.keys
  cases hl : n.Leaf with
  | true =>
    obtain ⟨h1, h2, h3, h4⟩ := m.leaf hl
    refine ⟨by omega, by rw [h3]; simp, by rw [h4]; simp, fun p hp => ?_, fun k hk => (by rw [h3] at hk; cases hk)⟩
    have := (hk p.Key (List.mem_append_left _ (List.mem_map_of_mem hp))).2
    have := h1 p hp
    omega
  | false =>
    obtain ⟨h1, h2, h3, h4, h5⟩ := m.inner hl
    refine ⟨by rw [h2]; simp, by omega, by omega, fun p hp => (by rw [h2] at hp; cases hp), fun k hk2 => ?_⟩
    have := (hk k (List.mem_append_right _ hk2)).2
    omega
theorem kidsClone_ok (xs : List Int) (hx : xs.length ≤ 300) : s59 xs = some ((), xs) := by
  unfold s59
  by_cases h : xs.length = 0
  · rw [if_pos h, List.eq_nil_of_length_eq_zero h]; rfl
  · rw [if_neg h]
    unfold s59_v2 s59_v2F
    rw [appI_ok (by simp; omega)]
    rfl
theorem Clone_ok {n : T_api_Node} (hw : fewN n) : s25 n = some ((n.Leaf, (), (), ()), (n.Pairs, n.Keys, n.Kids)) := by
  obtain ⟨w1, w2, w3, w4, w5⟩ := hw
  have l3 : ∀ (fuel i : Nat), i ≤ n.Keys.length → n.Keys.length - i < fuel → s25_l2 fuel n.Keys (n.Keys.length : Int) (i : Int) false n.Leaf n.Pairs (n.Keys.take i) n.Kids = some ((n.Leaf, (), (), ()), (n.Pairs, n.Keys, n.Kids)) := by
    intro fuel
    induction fuel with
    | zero => intro i _ h; omega
    | succ f ih =>
      intro i hi hf
      show s25_l2B (s25_l2 f) n.Keys (n.Keys.length : Int) (i : Int) false n.Leaf n.Pairs (n.Keys.take i) n.Kids = _
      unfold s25_l2B
      by_cases h : i < n.Keys.length
      · have hk := w5 _ (List.getElem_mem h)
        rw [if_pos (by omega), getI_nat, List.getElem?_eq_getElem h, Option.bind_some, own_ok _ (by omega), Option.bind_some]
        simp only [Option.bind_some]
        rw [cut_all, Option.bind_some, appI_ok (by simp; omega), Option.bind_some, List.take_append_getElem h, i64_in _ (by omega), show (i : Int) + 1 = ((i + 1 : Nat) : Int) by omega]
        exact ih (i + 1) (by omega) (by omega)
      · rw [if_neg (by omega), List.take_of_length_le (by omega)]
  have l2 : ∀ (fuel i : Nat), i ≤ n.Pairs.length → n.Pairs.length - i < fuel → s25_l1 fuel n.Pairs (n.Pairs.length : Int) (i : Int) n.Leaf n.Pairs n.Keys n.Kids false n.Leaf (n.Pairs.take i) n.Kids = some ((n.Leaf, (), (), ()), (n.Pairs, n.Keys, n.Kids)) := by
    intro fuel
    induction fuel with
    | zero => intro i _ h; omega
    | succ f ih =>
      intro i hi hf
      show s25_l1B (s25_l1 f) (s25_l2 FUEL) n.Pairs (n.Pairs.length : Int) (i : Int) n.Leaf n.Pairs n.Keys n.Kids false n.Leaf (n.Pairs.take i) n.Kids = _
      unfold s25_l1B
      by_cases h : i < n.Pairs.length
      · have hk := w4 _ (List.getElem_mem h)
        have hp : s57 n.Pairs[i] = some (((0, ((n.Pairs[i]).Key.length : Int)), (0, ((n.Pairs[i]).Val.length : Int))), ((n.Pairs[i]).Key, (n.Pairs[i]).Val)) := by
          unfold s57 s57F
          rw [own_ok _ (by omega), own_ok _ (by omega)]
          rfl
        rw [if_pos (by omega), getI_nat, List.getElem?_eq_getElem h, Option.bind_some, hp, Option.bind_some]
        simp only [Option.bind_some]
        rw [cut_all, Option.bind_some, cut_all, Option.bind_some, appI_ok (by simp; omega), Option.bind_some, List.take_append_getElem h, i64_in _ (by omega), show (i : Int) + 1 = ((i + 1 : Nat) : Int) by omega]
        exact ih (i + 1) (by omega) (by omega)
      · rw [if_neg (by omega), List.take_of_length_le (by omega)]
        have := l3 FUEL 0 (by omega) (by unfold FUEL; omega)
        rw [List.take_zero] at this
        exact this
  have := l2 FUEL 0 (by omega) (by unfold FUEL; omega)
  rw [List.take_zero] at this
  unfold s25 s25F
  rw [kidsClone_ok _ w3, Option.bind_some, Option.bind_some]
  generalize FUEL = F at this ⊢
  exact this
/-! ### Both halves -/
def lastN (n : T_api_Node) : Nat := if n.Leaf then n.Pairs.length else n.Keys.length - 1
def halfA (n : T_api_Node) (i : Nat) : T_api_Node := if n.Leaf then ⟨true, n.Pairs.take i, [], []⟩ else ⟨false, [], n.Keys.take i, n.Kids.take (i + 1)⟩
def halfB (n : T_api_Node) (i : Nat) : T_api_Node := if n.Leaf then ⟨true, n.Pairs.drop i, [], []⟩ else ⟨false, [], n.Keys.drop (i + 1), n.Kids.drop (i + 1)⟩
def midK (n : T_api_Node) (i : Nat) : List Int := if n.Leaf then ((n.Pairs[i]?).map (·.Key)).getD [] else (n.Keys[i]?).getD []
theorem halves_ok {n : T_api_Node} (m : MayP n) {i : Nat} (h1 : 1 ≤ i) (h2 : i < lastN n) : s75 n (i : Int) = some (nd (halfA n i), midK n i, nd (halfB n i)) := by
  unfold s75 s75F lastN midK halfA halfB at *
  cases hl : n.Leaf with
  | true =>
    rw [hl] at h2
    simp only [if_true] at h2 ⊢
    obtain ⟨m1, m2, m3, m4⟩ := m.leaf hl
    rw [if_pos ⟨by omega, by omega⟩, cutI_to (by omega), Option.bind_some, getI_nat, List.getElem?_eq_getElem h2, Option.bind_some, cutI_from (by omega), Option.bind_some]
    rfl
  | false =>
    rw [hl] at h2
    simp only [Bool.false_eq_true, if_false] at h2 ⊢
    obtain ⟨m1, m2, m3, m4, m5⟩ := m.inner hl
    have hi : i < n.Keys.length := by omega
    rw [show (i : Int) + 1 = ((i + 1 : Nat) : Int) by omega, i64_nat (by omega), if_pos ⟨by omega, by omega⟩, cutI_to (by omega), Option.bind_some, if_pos ⟨by omega, by omega⟩, cutI_to (by omega), Option.bind_some, getI_nat, List.getElem?_eq_getElem hi, Option.bind_some, cutI_from (by omega), Option.bind_some, cutI_from (by omega), Option.bind_some]
    rfl
end Go.Proofs.Ytefjbhogpgihaaa
