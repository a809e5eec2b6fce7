/- NodeHalves, the plain law: both halves of a node are it, joined, and fit if it was only a little too long. -/
import Derived.Test.YtefjbhogpgihaaaHJ
namespace Go.Proofs.Ytefjbhogpgihaaa
open Go Go.SX Go.VX
set_option maxRecDepth 100000
set_option linter.unusedVariables false
set_option linter.unusedSimpArgs false
theorem to_j2 {n : T_api_Node} (m : MayP n) (i : Int) {a : Nat} (h : s35 n = some (cutV n a)) (ha : 1 ≤ a ∧ a < lastN n) :
    s8 n i = s8_j2 i false n.Leaf n.Pairs n.Keys n.Kids (halfA n a).Leaf (halfA n a).Pairs (halfA n a).Keys (halfA n a).Kids (halfB n a).Leaf (halfB n a).Pairs (halfB n a).Keys (halfB n a).Kids := by
  obtain ⟨b, f1, f2⟩ := few_ok n
  have hb := f2 m.few
  subst hb
  have ej : s37 (⟨(halfA n a).Leaf, (halfA n a).Pairs, (halfA n a).Keys, (halfA n a).Kids⟩ : T_api_Node) (midK n a) (⟨(halfB n a).Leaf, (halfB n a).Pairs, (halfB n a).Keys, (halfB n a).Kids⟩ : T_api_Node) = some (nd n, 0) := join_ok m ha.1 ha.2
  have es : s29 (⟨n.Leaf, n.Pairs, n.Keys, n.Kids⟩ : T_api_Node) (⟨n.Leaf, n.Pairs, n.Keys, n.Kids⟩ : T_api_Node) = some true := same_self m.few
  have ec : cutV n a = ((nd (halfA n a), (0, ((midK n a).length : Int)), nd (halfB n a), 0), midK n a) := by unfold cutV; rw [if_neg (by omega)]
  unfold s8 s8F
  rw [h, ec]
  simp only [Option.bind_some]
  rw [live_ok, Option.bind_some, if_neg (by simp), f1, Option.bind_some, if_neg (by simp), decide_eq_false (by simp)]
  unfold s8_j1 s8_j1F
  rw [if_neg (by decide), cut_all, Option.bind_some]
  simp only [nd]
  rw [ej]
  simp only [Option.bind_some, nd]
  rw [if_neg (by simp), es, Option.bind_some]
  rfl
theorem cut_at {τ : Type} {xs : List τ} {k : Nat} (h : k ≤ xs.length) : cutI xs (0 + (k : Int)) (xs.length : Int) = some (xs.drop k) := by rw [Int.zero_add]; exact cutI_from h
theorem cut_upto {τ : Type} {xs : List τ} {k : Nat} (h : k ≤ xs.length) : cutI xs 0 (0 + (k : Int)) = some (xs.take k) := by rw [Int.zero_add]; exact cutI_to h
theorem law_may {n : T_api_Node} (m : MayP n) {i : Int} (hi : 0 ≤ i ∧ i ≤ 255) : s8 n i = some true := by
  obtain ⟨a, c1, c2, c3⟩ := cut_ok m
  by_cases hl1 : 1 < lastN n
  · obtain ⟨a1, a2, a3⟩ := c3 hl1
    rw [to_j2 m i c1 ⟨a1, a2⟩]
    obtain ⟨w1, w2, w3, w4, w5⟩ := m.few
    have er : s24 (⟨n.Leaf, n.Pairs, n.Keys, n.Kids⟩ : T_api_Node) = some ((n.Leaf, (), (), ()), (n.Pairs, n.Keys, n.Kids)) := rClone_ok m.few
    obtain ⟨v, rfl⟩ : ∃ v : Nat, i = v := ⟨i.toNat, by omega⟩
    unfold s8_j2 s8_j2F
    rw [if_neg (by decide), er]
    simp only [Option.bind_some]
    rw [i64_nat (by omega)]
    cases hl : n.Leaf with
    | true =>
      have hp : 1 < n.Pairs.length := by unfold lastN at hl1; rw [hl, if_pos rfl] at hl1; exact hl1
      have em : Int.tmod (v : Int) (n.Pairs.length : Int) = ((v % n.Pairs.length : Nat) : Int) := rfl
      have hk : v % n.Pairs.length < n.Pairs.length := Nat.mod_lt _ (by omega)
      rw [em, if_pos rfl, if_pos (by omega), if_pos ⟨by omega, by omega⟩, show ((v % n.Pairs.length : Nat) : Int) + 1 = ((v % n.Pairs.length + 1 : Nat) : Int) by omega, i64_nat (by omega), if_pos ⟨by omega, by omega⟩, cut_at (by omega), Option.bind_some, if_pos trivial, cut_upto (by omega), Option.bind_some, appI_ok (by simp; omega), Option.bind_some]
      obtain ⟨m1, m2, m3, m4⟩ := m.leaf hl
      have hw : (widths n)[v % n.Pairs.length]? = some (2 + (n.Pairs[v % n.Pairs.length]).Key.length + (n.Pairs[v % n.Pairs.length]).Val.length) := by
        unfold widths; rw [hl, if_pos rfl, List.getElem?_map, List.getElem?_eq_getElem hk]; rfl
      have hwl : widths ⟨true, n.Pairs.take (v % n.Pairs.length) ++ n.Pairs.drop (v % n.Pairs.length + 1), n.Keys, n.Kids⟩ = (widths n).take (v % n.Pairs.length) ++ (widths n).drop (v % n.Pairs.length + 1) := by
        unfold widths
        rw [hl]
        simp only [if_true, List.map_append, List.map_take, List.map_drop]
      have := end_ok m ⟨true, n.Pairs.take (v % n.Pairs.length) ++ n.Pairs.drop (v % n.Pairs.length + 1), n.Keys, n.Kids⟩ ⟨by simp; omega, by simp; omega, by simp; omega⟩ _ (fun ml => by
        obtain ⟨q1, q2⟩ := List.getElem?_eq_some_iff.1 hw
        have s := sum_out q1
        rw [q2] at s
        unfold sizeN
        rw [hl, hwl, if_pos rfl]
        omega) ((widths_le m).1 _ (List.mem_of_getElem? hw)) (fun e => by rw [hl] at e; cases e) c3 hl1
      rw [hl] at this
      exact this
    | false =>
      have hp : 1 < n.Keys.length := by unfold lastN at hl1; rw [hl, if_neg (by decide)] at hl1; omega
      obtain ⟨m1, m2, m3, m4, m5⟩ := m.inner hl
      have em : Int.tmod (v : Int) (n.Keys.length : Int) = ((v % n.Keys.length : Nat) : Int) := rfl
      have hk : v % n.Keys.length < n.Keys.length := Nat.mod_lt _ (by omega)
      rw [em, if_neg (by decide), if_pos (by omega), if_pos ⟨by omega, by omega⟩, show ((v % n.Keys.length : Nat) : Int) + 1 = ((v % n.Keys.length + 1 : Nat) : Int) by omega, show ((v % n.Keys.length : Nat) : Int) + 2 = ((v % n.Keys.length + 2 : Nat) : Int) by omega, i64_nat (by omega), i64_nat (by omega), if_pos ⟨by omega, by omega⟩, cut_at (by omega), Option.bind_some, if_pos trivial, cut_upto (by omega), Option.bind_some, appI_ok (by simp; omega), Option.bind_some,
        if_pos ⟨by omega, by omega⟩, if_pos ⟨by omega, by omega⟩, cut_at (by omega), Option.bind_some, if_pos trivial, cut_upto (by omega), Option.bind_some, appI_ok (by simp; omega), Option.bind_some]
      have hw : (widths n)[v % n.Keys.length]? = some (3 + (n.Keys[v % n.Keys.length]).length) := by
        unfold widths; rw [hl, if_neg (by decide), List.getElem?_map, List.getElem?_eq_getElem hk]; rfl
      have hwl : widths ⟨false, n.Pairs, n.Keys.take (v % n.Keys.length) ++ n.Keys.drop (v % n.Keys.length + 1), n.Kids.take (v % n.Keys.length + 1) ++ n.Kids.drop (v % n.Keys.length + 2)⟩ = (widths n).take (v % n.Keys.length) ++ (widths n).drop (v % n.Keys.length + 1) := by
        unfold widths
        rw [hl, if_neg (show ¬ (false = true) by decide), if_neg (show ¬ (false = true) by decide)]
        simp only [List.map_append, List.map_take, List.map_drop]
      have h28 : 3 + (n.Keys[v % n.Keys.length]).length ≤ 28 := by
        have := (rise_keys _ _ m.keys _ (List.mem_append_right _ (List.getElem_mem hk))).2
        omega
      have := end_ok m ⟨false, n.Pairs, n.Keys.take (v % n.Keys.length) ++ n.Keys.drop (v % n.Keys.length + 1), n.Kids.take (v % n.Keys.length + 1) ++ n.Kids.drop (v % n.Keys.length + 2)⟩ ⟨by simp; omega, by simp; omega, by simp; omega⟩ _ (fun ml => by
        obtain ⟨q1, q2⟩ := List.getElem?_eq_some_iff.1 hw
        have s := sum_out q1
        rw [q2] at s
        unfold sizeN
        rw [hl, hwl, if_neg (by decide)]
        omega) (by omega) (fun _ => h28) c3 hl1
      rw [hl] at this
      exact this
  · refine halves_err n i c1 ?_
    rw [c2 (by omega)]
    unfold cutV; rw [if_pos rfl]; show (4 : Int) ≠ 0; decide
theorem law_all (x : T_api_Node) (hf : Fine x) {i : Int} (hi : 0 ≤ i ∧ i ≤ 255) : s8 x i = some true := by
  by_cases m : MayP x
  · exact law_may m hi
  · exact not_may x hf i m
end Go.Proofs.Ytefjbhogpgihaaa
