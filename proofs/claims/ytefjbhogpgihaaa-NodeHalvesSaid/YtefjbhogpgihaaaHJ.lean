/- NodeHalves, the plain law (under way). -/
import Derived.Test.YtefjbhogpgihaaaHI
namespace Go.Proofs.Ytefjbhogpgihaaa
open Go Go.SX Go.VX
set_option maxRecDepth 100000
set_option linter.unusedVariables false
set_option linter.unusedSimpArgs false
theorem end_live (n1 lo hi : Int) (b94 : Bool) (a1 : List T_api_Pair) (a2 : List (List Int)) (a3 : List Int) (b95 : Bool) (c1 : List T_api_Pair) (c2 : List (List Int)) (c3 : List Int) (k : List Int) (b96 : Bool) (d1 : List T_api_Pair) (d2 : List (List Int)) (d3 : List Int) : s8_j1 n1 lo hi true b94 a1 a2 a3 b95 c1 c2 c3 k b96 d1 d2 d3 = some true := by
  unfold s8_j1 s8_j1F
  rw [if_pos rfl, live_ok]
  rfl
theorem sum_out {l : List Nat} {k : Nat} (h : k < l.length) : (l.take k ++ l.drop (k + 1)).sum + l[k] = l.sum := by
  have e : l.sum = (l.take k ++ l.drop k).sum := by rw [List.take_append_drop]
  rw [e, List.drop_eq_getElem_cons h, List.sum_append, List.sum_append, List.sum_cons]
  omega
/-- An errno that is not 0: the law asks for no more. -/
theorem halves_err (n : T_api_Node) (i : Int) {y : CutT} (h : s35 n = some y) (he : y.1.2.2.2 ≠ 0) : s8 n i = some true := by
  obtain ⟨b, h1, h2⟩ := few_ok n
  unfold s8 s8F
  rw [h]
  simp only [Option.bind_some]
  rw [live_ok, Option.bind_some, if_neg (by simp), h1, Option.bind_some]
  cases b with
  | false => rw [if_pos (by simp)]; exact end_live ..
  | true => rw [if_neg (by simp), decide_eq_true he]; exact end_live ..
theorem not_may (n : T_api_Node) (hf : Fine n) (i : Int) (hm : ¬ MayP n) : s8 n i = some true := by
  refine halves_err n i (y := ((n0, (0, 0), n0, 100), [])) ?_ (by decide)
  have hb : mayB n = false := by cases h : mayB n with
    | false => rfl
    | true => exact absurd ((mayB_iff n).1 h) hm
  unfold s35 s35F
  rw [may_ok hf, hb, Option.bind_some, if_pos (by simp)]
  rfl
theorem end_ok {n : T_api_Node} (m : MayP n) (less : T_api_Node) (hf : Fine less) (w : Nat) (hw : MayP less → sizeN n = sizeN less + w) (h51 : w ≤ 51) (h28 : n.Leaf = false → w ≤ 28) {a : Nat} (ha : 1 < lastN n → 1 ≤ a ∧ a < lastN n ∧ ∀ j, 1 ≤ j → j < lastN n → dst n a ≤ dst n j) (h1 : 1 < lastN n) :
    s8_j3 n.Leaf n.Pairs n.Keys n.Kids (halfA n a).Leaf (halfA n a).Pairs (halfA n a).Keys (halfA n a).Kids (halfB n a).Leaf (halfB n a).Pairs (halfB n a).Keys (halfB n a).Kids less.Leaf less.Pairs less.Keys less.Kids = some true := by
  obtain ⟨a1, a2, a3⟩ := ha h1
  have mA := halfA_may m a1 a2
  have mB := halfB_may m a1 a2
  have en : s26 (⟨n.Leaf, n.Pairs, n.Keys, n.Kids⟩ : T_api_Node) = some (chkN n) := check_ok m.few.fine
  have el : s26 (⟨less.Leaf, less.Pairs, less.Keys, less.Kids⟩ : T_api_Node) = some (chkN less) := check_ok hf
  have eA : s26 (⟨(halfA n a).Leaf, (halfA n a).Pairs, (halfA n a).Keys, (halfA n a).Kids⟩ : T_api_Node) = some (chkN (halfA n a)) := check_ok mA.few.fine
  have eB : s26 (⟨(halfB n a).Leaf, (halfB n a).Pairs, (halfB n a).Keys, (halfB n a).Kids⟩ : T_api_Node) = some (chkN (halfB n a)) := check_ok mB.few.fine
  have zA : s14 (⟨(halfA n a).Leaf, (halfA n a).Pairs, (halfA n a).Keys, (halfA n a).Kids⟩ : T_api_Node) = some ((sizeN (halfA n a) : Nat) : Int) := Size_ok mA.few.fine mA
  have zB : s14 (⟨(halfB n a).Leaf, (halfB n a).Pairs, (halfB n a).Keys, (halfB n a).Kids⟩ : T_api_Node) = some ((sizeN (halfB n a) : Nat) : Int) := Size_ok mB.few.fine mB
  unfold s8_j3 s8_j3F
  rw [en, Option.bind_some]
  have yes : ∀ b95 c1 c2 c3 b96 d1 d2 d3, s8_j4 true b95 c1 c2 c3 b96 d1 d2 d3 = some true := fun _ _ _ _ _ _ _ _ => rfl
  by_cases h3 : chkN n ≠ 3
  · rw [if_pos h3, yes]
  · rw [if_neg h3, el, Option.bind_some]
    by_cases h0 : chkN less ≠ 0
    · rw [decide_eq_true h0, yes]
    · rw [decide_eq_false h0]
      have hn : 240 < sizeN n := by
        unfold chkN at h3
        rw [if_pos m] at h3
        by_cases h : sizeN n > 240
        · exact h
        · rw [if_neg h] at h3; exact absurd (by decide) h3
      have hl : MayP less ∧ sizeN less ≤ 240 := by
        unfold chkN at h0
        by_cases ml : MayP less
        · rw [if_pos ml] at h0
          by_cases h : sizeN less > 240
          · rw [if_pos h] at h0; exact absurd (by decide) h0
          · exact ⟨ml, by omega⟩
        · rw [if_neg ml] at h0; exact absurd (by decide) h0
      have hs := hw hl.1
      obtain ⟨_, fit⟩ := halves_fit m hn (by omega) (fun e => by have := h28 e; omega)
      obtain ⟨f1, f2, f3, f4⟩ := fit a a1 a2 a3
      unfold s8_j4 s8_j4F
      have cA : chkN (halfA n a) = 0 := by unfold chkN; rw [if_pos mA, if_neg (by omega)]
      have cB : chkN (halfB n a) = 0 := by unfold chkN; rw [if_pos mB, if_neg (by omega)]
      rw [if_neg (by decide), eA, Option.bind_some, if_pos cA, eB, Option.bind_some, if_pos cB, zA, Option.bind_some, if_pos (by omega), zB, Option.bind_some, decide_eq_true (by omega)]
end Go.Proofs.Ytefjbhogpgihaaa
