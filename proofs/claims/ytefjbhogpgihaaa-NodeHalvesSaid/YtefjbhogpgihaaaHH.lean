/- Plain laws of node for the print of VX, part 8: few comes back for whatever node, and lets in those that may be. -/
import Derived.Test.YtefjbhogpgihaaaHG
namespace Go.Proofs.Ytefjbhogpgihaaa
open Go Go.SX Go.VX
set_option maxRecDepth 100000
set_option linter.unusedVariables false
set_option linter.unusedSimpArgs false
theorem few_keys (R : List T_api_Node → Int → Int → Option Bool) (L : List T_api_Node) {ks : List (List Int)} (hk : ks.length ≤ 300) (hR : R L 1 (IntKind.i64.wrap (0 + 1)) = some true) : ∀ (m i : Nat), i ≤ ks.length → ks.length - i < m →
    ∃ b, s12_l3 R m L 1 0 ks (ks.length : Int) (i : Int) = some b ∧ ((∀ k ∈ ks, k.length ≤ 300) → b = true) := by
  intro m
  induction m with
  | zero => intro i _ h; omega
  | succ m ih =>
    intro i hi hm
    show ∃ b, s12_l3B (s12_l3 R m) R L 1 0 ks (ks.length : Int) (i : Int) = some b ∧ _
    unfold s12_l3B
    by_cases h : i < ks.length
    · rw [if_pos (by omega), getI_nat, List.getElem?_eq_getElem h, Option.bind_some]
      by_cases hv : ((ks[i]).length : Int) > 300
      · rw [if_pos hv]
        exact ⟨false, rfl, fun hh => by have := hh _ (List.getElem_mem h); omega⟩
      · rw [if_neg hv, show (i : Int) + 1 = ((i + 1 : Nat) : Int) by omega, i64_nat (by omega)]
        exact ih (i + 1) (by omega) (by omega)
    · rw [if_neg (by omega), hR]
      exact ⟨true, rfl, fun _ => rfl⟩
theorem few_pairs (R : List T_api_Node → Int → Int → Option Bool) (L : List T_api_Node) (lf : Bool) {ps : List T_api_Pair} {ks : List (List Int)} (kd : List Int) (hp : ps.length ≤ 300) (hk : ks.length ≤ 300) (hR : R L 1 (IntKind.i64.wrap (0 + 1)) = some true) : ∀ (m i : Nat), i ≤ ps.length → ps.length - i < m →
    ∃ b, s12_l2 R m L 1 0 ps (ps.length : Int) (i : Int) lf ps ks kd = some b ∧ ((∀ p ∈ ps, p.Key.length ≤ 300 ∧ p.Val.length ≤ 300) → (∀ k ∈ ks, k.length ≤ 300) → b = true) := by
  intro m
  induction m with
  | zero => intro i _ h; omega
  | succ m ih =>
    intro i hi hm
    show ∃ b, s12_l2B (s12_j2 (s12_l2 R m)) (s12_l3 R FUEL) L 1 0 ps (ps.length : Int) (i : Int) lf ps ks kd = some b ∧ _
    unfold s12_l2B
    by_cases h : i < ps.length
    · rw [if_pos (by omega), getI_nat, List.getElem?_eq_getElem h, Option.bind_some]
      by_cases h1 : ((ps[i]).Key.length : Int) > 300
      · rw [if_pos h1]
        exact ⟨false, rfl, fun hh => by have := hh _ (List.getElem_mem h); omega⟩
      · rw [if_neg h1]
        by_cases h2 : ((ps[i]).Val.length : Int) > 300
        · rw [decide_eq_true h2]
          exact ⟨false, rfl, fun hh => by have := hh _ (List.getElem_mem h); omega⟩
        · rw [decide_eq_false h2]
          unfold s12_j2 s12_j2F
          rw [if_neg (by decide), show (i : Int) + 1 = ((i + 1 : Nat) : Int) by omega, i64_nat (by omega)]
          exact ih (i + 1) (by omega) (by omega)
    · rw [if_neg (by omega)]
      obtain ⟨b, b1, b2⟩ := few_keys R L hk hR FUEL 0 (by omega) (by unfold FUEL; omega)
      exact ⟨b, b1, fun _ => b2⟩
theorem few_ok (n : T_api_Node) : ∃ b, s12 [n] = some b ∧ (fewN n → b = true) := by
  obtain ⟨f, hF⟩ : ∃ f, FUEL = f + 2 := ⟨FUEL - 2, by unfold FUEL; decide⟩
  have hR : s12_l1 (f + 1) [n] 1 (IntKind.i64.wrap (0 + 1)) = some true := by
    show s12_l1B (s12_j1 (s12_l1 f)) [n] 1 1 = _
    unfold s12_l1B
    rw [if_neg (by decide)]
  show ∃ b, s12_l1 FUEL [n] 1 0 = some b ∧ _
  rw [hF]
  show ∃ b, s12_l1B (s12_j1 (s12_l1 (f + 1))) [n] 1 0 = some b ∧ _
  unfold s12_l1B
  rw [if_pos (by decide), show getI [n] 0 = some n from rfl, Option.bind_some]
  have no : ∀ a b c d, s12_j1 (s12_l1 (f + 1)) [n] 1 0 true a b c d = some false := fun _ _ _ _ => rfl
  by_cases h1 : (n.Pairs.length : Int) > 300
  · rw [if_pos h1, no]; exact ⟨false, rfl, fun hh => by have := hh.1; omega⟩
  · rw [if_neg h1]
    by_cases h2 : (n.Keys.length : Int) > 300
    · rw [if_pos h2, no]; exact ⟨false, rfl, fun hh => by have := hh.2.1; omega⟩
    · rw [if_neg h2]
      by_cases h3 : (n.Kids.length : Int) > 300
      · rw [decide_eq_true h3, no]; exact ⟨false, rfl, fun hh => by have := hh.2.2.1; omega⟩
      · rw [decide_eq_false h3]
        unfold s12_j1 s12_j1F
        rw [if_neg (by decide)]
        obtain ⟨b, b1, b2⟩ := few_pairs (s12_l1 (f + 1)) [n] n.Leaf (ps := n.Pairs) (ks := n.Keys) n.Kids (by omega) (by omega) hR FUEL 0 (by omega) (by unfold FUEL; omega)
        exact ⟨b, b1, fun hh => b2 hh.2.2.2.1 hh.2.2.2.2⟩
end Go.Proofs.Ytefjbhogpgihaaa
