/- Plain laws of node for the print of VX, part 2: how many bytes a node has; which nodes fit. -/
import Derived.Test.YtefjbhogpgihaaaHA
namespace Go.Proofs.Ytefjbhogpgihaaa
open Go Go.SX Go.VX
set_option maxRecDepth 100000
set_option linter.unusedVariables false
set_option linter.unusedSimpArgs false
theorem rise_keys : ∀ (last : Option (List Int)) (ks : List (List Int)), rise last ks → ∀ k ∈ ks, isKeyP k
  | _, [], _, k, h => by cases h
  | last, a :: ks, h, k, hk => by
    rcases List.mem_cons.1 hk with rfl | hk
    · exact h.1
    · exact rise_keys _ ks h.2.2 k hk
def widths (n : T_api_Node) : List Nat := if n.Leaf then n.Pairs.map (fun p => 2 + p.Key.length + p.Val.length) else n.Keys.map (fun k => 3 + k.length)
def sizeN (n : T_api_Node) : Nat := (if n.Leaf then 1 else 3) + (widths n).sum
theorem widths_le {n : T_api_Node} (m : MayP n) : (∀ w ∈ widths n, w ≤ 51) ∧ (widths n).length ≤ 255 ∧ ((n.Pairs.length : Int) + (n.Keys.length : Int)) = ((widths n).length : Int) := by
  have hk := rise_keys _ _ m.keys
  unfold widths
  cases hl : n.Leaf with
  | true =>
    obtain ⟨h1, h2, h3, h4⟩ := m.leaf hl
    refine ⟨?_, by simpa using h2, by simp [h3]⟩
    intro w hw
    simp only [if_true, List.mem_map] at hw
    obtain ⟨p, hp, rfl⟩ := hw
    have a := h1 p hp
    have b := (hk p.Key (List.mem_append_left _ (List.mem_map_of_mem hp))).2
    omega
  | false =>
    obtain ⟨h1, h2, h3, h4, h5⟩ := m.inner hl
    refine ⟨?_, by simpa using h4, by simp [h2]⟩
    intro w hw
    simp only [Bool.false_eq_true, if_false, List.mem_map] at hw
    obtain ⟨k, hk2, rfl⟩ := hw
    have b := (hk k (List.mem_append_right _ hk2)).2
    omega
theorem width_ok {n : T_api_Node} (m : MayP n) {i : Nat} {w : Nat} (h : (widths n)[i]? = some w) : s94 n (i : Int) = some (w : Int) := by
  have hw := (widths_le m).1 w (List.mem_of_getElem? h)
  unfold s94 s94F
  unfold widths at h
  cases hl : n.Leaf with
  | true =>
    rw [hl] at h
    simp only [if_true, List.getElem?_map, Option.map_eq_some_iff] at h
    obtain ⟨p, hp, rfl⟩ := h
    rw [if_pos rfl, getI_nat, hp, Option.bind_some, Option.bind_some, i64_in (2 + (p.Key.length : Int)) (by omega), i64_in _ (by omega)]
    congr 1
  | false =>
    rw [hl] at h
    simp only [Bool.false_eq_true, if_false, List.getElem?_map, Option.map_eq_some_iff] at h
    obtain ⟨k, hp, rfl⟩ := h
    rw [if_neg (by decide), getI_nat, hp, Option.bind_some, i64_in _ (by omega)]
    congr 1
theorem sum_le : ∀ (l : List Nat), (∀ w ∈ l, w ≤ 51) → l.sum ≤ 51 * l.length
  | [], _ => by simp
  | a :: l, h => by
    have := sum_le l fun w hw => h w (List.mem_cons_of_mem _ hw)
    have := h a (List.mem_cons_self ..)
    simp only [List.sum_cons, List.length_cons]
    omega
theorem size_loop {n : T_api_Node} (m : MayP n) : ∀ (fuel i s : Nat), i ≤ (widths n).length → (widths n).length - i < fuel → s ≤ 3 + 51 * i →
    s52_l1 fuel (s : Int) (((widths n).length : Nat) : Int) (i : Int) n.Leaf n.Pairs n.Keys n.Kids = some ((s + ((widths n).drop i).sum : Nat) : Int) := by
  obtain ⟨w1, w2, w3⟩ := widths_le m
  intro fuel
  induction fuel with
  | zero => intro i s _ h; omega
  | succ f ih =>
    intro i s hi hf hs
    show s52_l1B (s52_l1 f) (s : Int) (((widths n).length : Nat) : Int) (i : Int) n.Leaf n.Pairs n.Keys n.Kids = _
    unfold s52_l1B
    by_cases h : i < (widths n).length
    · have hx := List.getElem?_eq_getElem h
      have hw := w1 _ (List.mem_of_getElem? hx)
      rw [if_pos (by omega), width_ok m hx, Option.bind_some, i64_in ((s : Int) + _) (by omega), i64_in _ (by omega), List.drop_eq_getElem_cons h, List.sum_cons]
      have := ih (i + 1) (s + (widths n)[i]) (by omega) (by omega) (by omega)
      rw [show (((s + (widths n)[i] : Nat)) : Int) = (s : Int) + ((widths n)[i] : Int) by omega, show (((i + 1 : Nat)) : Int) = (i : Int) + 1 by omega] at this
      rw [this, Nat.add_assoc]
    · rw [if_neg (by omega), List.drop_of_length_le (by omega)]
      simp
theorem size_ok {n : T_api_Node} (m : MayP n) : s52 n = some ((sizeN n : Nat) : Int) := by
  obtain ⟨w1, w2, w3⟩ := widths_le m
  have j1 : ∀ s : Nat, s ≤ 3 → s52_j1 (s : Int) n.Leaf n.Pairs n.Keys n.Kids = some ((s + (widths n).sum : Nat) : Int) := by
    intro s hs
    show (s66 n).bind (fun k => s52_l1 FUEL (s : Int) k 0 n.Leaf n.Pairs n.Keys n.Kids) = _
    unfold s66 s66F
    rw [w3, i64_in _ (by omega), Option.bind_some]
    have := size_loop m FUEL 0 s (by omega) (by unfold FUEL; omega) (by omega)
    rw [List.drop_zero] at this
    exact this
  unfold s52 s52F sizeN
  have a := j1 1 (by omega)
  have b := j1 3 (by omega)
  cases hl : n.Leaf with
  | true => rw [hl] at a; rw [if_neg (by simp), show (1 : Int) = ((1 : Nat) : Int) from rfl, a]; rfl
  | false => rw [hl] at b; rw [if_pos (by simp), show (3 : Int) = ((3 : Nat) : Int) from rfl, b]; rfl
theorem sizeN_le {n : T_api_Node} (m : MayP n) : sizeN n ≤ 13008 := by
  obtain ⟨w1, w2, w3⟩ := widths_le m
  have := sum_le _ w1
  unfold sizeN
  split <;> omega
open Classical in
/-- What Check says. -/
noncomputable def chkN (n : T_api_Node) : Int := if MayP n then if sizeN n > 240 then 3 else 0 else 100
theorem check_ok {n : T_api_Node} (hf : Fine n) : s26 n = some (chkN n) := by
  unfold s26 s26F chkN
  rw [may_ok hf, Option.bind_some]
  by_cases m : MayP n
  · rw [if_neg (by simp [(mayB_iff n).2 m]), if_pos m, size_ok m, Option.bind_some]
    by_cases h : sizeN n > 240
    · rw [if_pos (by omega), if_pos h]
    · rw [if_neg (by omega), if_neg h]
  · rw [if_pos (fun h => m ((mayB_iff n).1 h)), if_neg m]
theorem Size_ok {n : T_api_Node} (hf : Fine n) (m : MayP n) : s14 n = some ((sizeN n : Nat) : Int) := by
  unfold s14 s14F
  rw [may_ok hf, Option.bind_some, if_neg (by simp [(mayB_iff n).2 m]), size_ok m]
  rfl
end Go.Proofs.Ytefjbhogpgihaaa
