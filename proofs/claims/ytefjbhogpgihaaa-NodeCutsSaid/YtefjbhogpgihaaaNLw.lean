/- Plain laws of the reference of node: what a page bears. -/
import Derived.Test.YtefjbhogpgihaaaNBw
import Derived.Test.YtefjbhogpgihaaaNRw
set_option linter.unusedVariables false
set_option maxRecDepth 20000
namespace Go.Proofs.Ytefjbhogpgihaaa
open Go Go.SX
theorem be_two {v : Nat} (hv : v < 65536) : be 2 v = [((v / 256 : Nat) : Int), ((v % 256 : Nat) : Int)] := by
  simp only [be, List.nil_append, List.cons_append]
  rw [Nat.mod_eq_of_lt (show v / 256 < 256 by omega)]
theorem layKs_cons (k : List Int) (ks : List (List Int)) (c : Int) (cs : List Int) : layKs (k :: ks) (c :: cs) = tx k ++ (be 2 c.toNat ++ layKs ks cs) := rfl
theorem rlay_l1 {n : T_api_Node} (m : MayP n) (hl : n.Leaf = true) : ∀ (fuel i : Nat) (b : List Int), i ≤ n.Pairs.length → n.Pairs.length - i < fuel → b.length ≤ 1 + 51 * i →
    g61_l1 n fuel b (i : Int) = some (b ++ layPs (n.Pairs.drop i)) := by
  obtain ⟨v1, v2, v3, v4⟩ := m.leaf hl
  intro fuel
  induction fuel with
  | zero => intro i b _ h; omega
  | succ f ih =>
    intro i b hi hf hb
    show g61_l1B n (g61_l1 n f) b (i : Int) = _
    unfold g61_l1B
    by_cases h : i < n.Pairs.length
    · have hp := List.getElem_mem h
      have hk := m.pkey hp
      have hv := v1 _ hp
      rw [if_pos (by omega), getI_nat, List.getElem?_eq_getElem h, Option.bind_some, u8_in _ (by omega), appI_ok (by simp; omega), Option.bind_some, appI_ok (by simp; omega), Option.bind_some, u8_in _ (by omega), appI_ok (by simp; omega), Option.bind_some, appI_ok (by simp; omega), Option.bind_some, i64_in _ (by omega), show (i : Int) + 1 = ((i + 1 : Nat) : Int) by omega,
        ih (i + 1) _ (by omega) (by omega) (by simp; omega), List.drop_eq_getElem_cons h, layPs_cons]
      unfold layP tx
      simp only [List.append_assoc, List.cons_append, List.nil_append]
    · rw [if_neg (by omega), List.drop_of_length_le (by omega)]
      simp [layPs]
theorem rlay_l2 {n : T_api_Node} (m : MayP n) (hl : n.Leaf = false) : ∀ (fuel i : Nat) (b : List Int), i ≤ n.Keys.length → n.Keys.length - i < fuel → b.length ≤ 3 + 51 * i →
    g61_l2 n fuel b (i : Int) = some (b ++ layKs (n.Keys.drop i) (n.Kids.drop (i + 1))) := by
  obtain ⟨v1, v2, v3, v4, v5⟩ := m.inner hl
  intro fuel
  induction fuel with
  | zero => intro i b _ h; omega
  | succ f ih =>
    intro i b hi hf hb
    show g61_l2B n (g61_l2 n f) b (i : Int) = _
    unfold g61_l2B
    by_cases h : i < n.Keys.length
    · have hk := m.key (List.getElem_mem h)
      have hc := v1 _ (List.getElem_mem (show i + 1 < n.Kids.length by omega))
      obtain ⟨c, e⟩ : ∃ c : Nat, n.Kids[i + 1]'(by omega) = (c : Int) := ⟨(n.Kids[i + 1]'(by omega)).toNat, by omega⟩
      have d : Int.tdiv (c : Int) 256 = ((c / 256 : Nat) : Int) := by rw [Int.tdiv_eq_ediv_of_nonneg (by omega)]; rfl
      have md : Int.tmod (c : Int) 256 = ((c % 256 : Nat) : Int) := by rw [Int.tmod_eq_emod_of_nonneg (by omega)]; rfl
      rw [if_pos (by omega), getI_nat, List.getElem?_eq_getElem h, Option.bind_some, Option.bind_some, u8_in _ (by omega), appI_ok (by simp; omega), Option.bind_some, appI_ok (by simp; omega), Option.bind_some, i64_in ((i : Int) + 1) (by omega), show (i : Int) + 1 = ((i + 1 : Nat) : Int) by omega, getI_nat, List.getElem?_eq_getElem (show i + 1 < n.Kids.length by omega), Option.bind_some, Option.bind_some, e, d, md,
        i64_in _ (by omega), u8_in _ (by omega), u8_in _ (by omega), appI_ok (by simp; omega), Option.bind_some,
        ih (i + 1) _ (by omega) (by omega) (by simp; omega), List.drop_eq_getElem_cons h, List.drop_eq_getElem_cons (show i + 1 < n.Kids.length by omega)]
      rw [layKs_cons, e, Int.toNat_natCast, be_two (by omega)]
      unfold tx
      simp only [List.append_assoc, List.cons_append, List.nil_append]
    · rw [if_neg (by omega), List.drop_of_length_le (by omega)]
      simp [layKs]
theorem rlay_ok {n : T_api_Node} (m : MayP n) : g61 n = some (layN n) := by
  unfold g61 layN
  cases hl : n.Leaf with
  | true =>
    have := (m.leaf hl).2.1
    rw [if_pos rfl, u8_in _ (by omega), show (0 : Int) = ((0 : Nat) : Int) from rfl, rlay_l1 m hl FUEL 0 _ (by omega) (by unfold FUEL; omega) (by simp), List.drop_zero]
    rfl
  | false =>
    obtain ⟨v1, v2, v3, v4, v5⟩ := m.inner hl
    obtain ⟨k0, ks, hk⟩ : ∃ k0 ks, n.Kids = k0 :: ks := by
      cases h : n.Kids with
      | nil => rw [h] at v5; simp at v5
      | cons a b => exact ⟨a, b, rfl⟩
    have hc := v1 k0 (by rw [hk]; exact List.mem_cons_self ..)
    obtain ⟨c, rfl⟩ : ∃ c : Nat, k0 = (c : Int) := ⟨k0.toNat, by omega⟩
    have d : Int.tdiv (c : Int) 256 = ((c / 256 : Nat) : Int) := by rw [Int.tdiv_eq_ediv_of_nonneg (by omega)]; rfl
    have md : Int.tmod (c : Int) 256 = ((c % 256 : Nat) : Int) := by rw [Int.tmod_eq_emod_of_nonneg (by omega)]; rfl
    have g0 : getI n.Kids 0 = some (c : Int) := by rw [hk]; rfl
    rw [if_neg (by decide), g0, Option.bind_some, Option.bind_some, d, md, i64_in _ (by omega), u8_in _ (by omega), u8_in _ (by omega), u8_in _ (by omega), show (0 : Int) = ((0 : Nat) : Int) from rfl, rlay_l2 m hl FUEL 0 _ (by omega) (by unfold FUEL; omega) (by simp), List.drop_zero, hk]
    simp only [Bool.false_eq_true, if_false, List.headD_cons, List.tail_cons, Int.toNat_natCast, List.drop_succ_cons, List.drop_zero]
    rw [be_two (by omega)]
    simp only [List.append_assoc, List.cons_append, List.nil_append]
end Go.Proofs.Ytefjbhogpgihaaa
