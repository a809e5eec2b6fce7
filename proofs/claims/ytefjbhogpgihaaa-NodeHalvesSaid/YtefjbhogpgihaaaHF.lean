/- Plain laws of node for the print of VX, part 6: both halves joined are the node. -/
import Derived.Test.YtefjbhogpgihaaaHE
namespace Go.Proofs.Ytefjbhogpgihaaa
open Go Go.SX Go.VX
set_option maxRecDepth 100000
set_option linter.unusedVariables false
set_option linter.unusedSimpArgs false
theorem live_ok : s11 = some true := by kernel_rfl
theorem behind_ok {n : T_api_Node} (m : MayP n) : s79 n = some (nd n, 0) := by
  unfold s79 s79F
  rw [may_ok m.few.fine, (mayB_iff n).2 m, Option.bind_some, if_neg (by simp)]
  rfl
theorem join_ok {n : T_api_Node} (m : MayP n) {i : Nat} (h1 : 1 ≤ i) (h2 : i < lastN n) : s37 (halfA n i) (midK n i) (halfB n i) = some (nd n, 0) := by
  have mA := halfA_may m h1 h2
  have mB := halfB_may m h1 h2
  have fA := mA.few
  have fB := mB.few
  have cA := Clone_ok fA
  have cB := Clone_ok fB
  have hk := midK_len m i
  have h79 := behind_ok m
  unfold s37 s37F
  rw [may_ok fA.fine, (mayB_iff _).2 mA, Option.bind_some, if_neg (by simp), may_ok fB.fine, (mayB_iff _).2 mB, Option.bind_some, if_neg (by simp)]
  cases hl : n.Leaf with
  | true =>
    have eA : halfA n i = ⟨true, n.Pairs.take i, [], []⟩ := by unfold halfA; rw [hl]; rfl
    have eB : halfB n i = ⟨true, n.Pairs.drop i, [], []⟩ := by unfold halfB; rw [hl]; rfl
    rw [eA] at cA ⊢
    rw [eB] at cB ⊢
    obtain ⟨m1, m2, m3, m4⟩ := m.leaf hl
    unfold s37_j1 s37_j1F s37_j2 s37_j2F
    rw [if_neg (by simp), if_neg (by simp), if_neg (by simp), cA]
    simp only [Option.bind_some]
    rw [cB]
    simp only [Option.bind_some]
    rw [appI_ok (by simp; omega), Option.bind_some, if_neg (by simp), List.take_append_drop]
    unfold s37_j3 s37_j3F
    have e : (⟨true, n.Pairs, [], []⟩ : T_api_Node) = n := by cases n; simp_all
    rw [e, h79]
    rfl
  | false =>
    have eA : halfA n i = ⟨false, [], n.Keys.take i, n.Kids.take (i + 1)⟩ := by unfold halfA; rw [hl]; rfl
    have eB : halfB n i = ⟨false, [], n.Keys.drop (i + 1), n.Kids.drop (i + 1)⟩ := by unfold halfB; rw [hl]; rfl
    rw [eA] at cA ⊢
    rw [eB] at cB ⊢
    obtain ⟨m1, m2, m3, m4, m5⟩ := m.inner hl
    unfold lastN at h2
    rw [hl, if_neg (by decide)] at h2
    have hi : i < n.Keys.length := by omega
    have em : midK n i = n.Keys[i] := by unfold midK; rw [hl, if_neg (by decide), List.getElem?_eq_getElem hi]; rfl
    have hkey : isKeyP (midK n i) := by rw [em]; exact rise_keys _ _ m.keys _ (List.mem_append_right _ (List.getElem_mem hi))
    unfold s37_j1 s37_j1F s37_j2 s37_j2F
    rw [if_neg (by simp), if_pos (by simp), isKey_ok, decide_eq_true hkey, Option.bind_some, if_neg (by simp), cA]
    simp only [Option.bind_some]
    rw [cB]
    simp only [Option.bind_some]
    rw [appI_ok (by simp), Option.bind_some, if_pos (by simp), own_ok _ (by omega), Option.bind_some]
    simp only [Option.bind_some]
    rw [cut_all, Option.bind_some, appI_ok (by simp; omega), Option.bind_some, appI_ok (by simp; omega), Option.bind_some, appI_ok (by simp; omega), Option.bind_some, List.take_append_drop, em, List.take_append_getElem hi, List.take_append_drop]
    unfold s37_j3 s37_j3F
    have e : (⟨false, [] ++ [], n.Keys, n.Kids⟩ : T_api_Node) = n := by cases n; simp_all
    rw [e, h79]
    rfl
end Go.Proofs.Ytefjbhogpgihaaa
