/- Plain laws of node: what a node's page bears, and the node of it. -/
import Derived.Test.YtefjbhogpgihaaaNKw
import Derived.Test.YtefjbhogpgihaaaPKw
set_option linter.unusedVariables false
set_option maxRecDepth 20000
namespace Go.Proofs.Ytefjbhogpgihaaa
open Go Go.SX
theorem equal_ok {k l : List Int} (h1 : B8 k) (h2 : B8 l) : g34 k l = some (decide (k = l)) := by
  unfold g34
  congr 1
  rw [decide_eq_decide]
  exact str_eq h1 h2
def layP (p : T_api_Pair) : List Int := tx p.Key ++ tx p.Val
def layPs (ps : List T_api_Pair) : List Int := (ps.map layP).flatten
def layKs : List (List Int) → List Int → List Int
  | k :: ks, c :: cs => tx k ++ (be 2 c.toNat ++ layKs ks cs)
  | _, _ => []
def layN (n : T_api_Node) : List Int := if n.Leaf then (n.Pairs.length : Int) :: layPs n.Pairs else (n.Keys.length : Int) :: (be 2 (n.Kids.headD 0).toNat ++ layKs n.Keys n.Kids.tail)
theorem layPs_cons (p : T_api_Pair) (ps : List T_api_Pair) : layPs (p :: ps) = layP p ++ layPs ps := rfl
theorem layPs_len (ps : List T_api_Pair) : (layPs ps).length = (ps.map fun p => 2 + p.Key.length + p.Val.length).sum := by
  induction ps with
  | nil => rfl
  | cons p ps ih => rw [layPs_cons, List.length_append, ih, List.map_cons, List.sum_cons, layP, List.length_append, tx_len, tx_len]; omega
theorem layKs_len : ∀ (ks : List (List Int)) (cs : List Int), cs.length = ks.length → (layKs ks cs).length = (ks.map fun k => 3 + k.length).sum
  | [], [], _ => rfl
  | k :: ks, c :: cs, h => by
    rw [layKs, List.length_append, List.length_append, be_len, tx_len, layKs_len ks cs (by simpa using h), List.map_cons, List.sum_cons]; omega
  | [], _ :: _, h => by simp at h
  | _ :: _, [], h => by simp at h
theorem layN_len {n : T_api_Node} (m : MayP n) : (layN n).length = sizeN n := by
  unfold layN sizeN widths
  cases hl : n.Leaf with
  | true => simp only [if_true]; rw [List.length_cons, layPs_len]; omega
  | false =>
    have hi := (m.inner hl).2.2.2.2
    simp only [Bool.false_eq_true, if_false]
    rw [List.length_cons, List.length_append, be_len, layKs_len _ _ (by rw [List.length_tail]; omega)]; omega
/-- All of a node is bytes. -/
structure Raw (n : T_api_Node) : Prop where
  pairs : ∀ p ∈ n.Pairs, B8 p.Key ∧ B8 p.Val
  keys : ∀ k ∈ n.Keys, B8 k
theorem okN.raw {n : T_api_Node} (h : okN n) : Raw n := ⟨fun p hp => ⟨B8.of_wf (h.2.1.2 p hp).1.2, B8.of_wf (h.2.1.2 p hp).2.2⟩, fun k hk => B8.of_wf (h.2.2.1.2 k hk).2⟩
theorem layPs_8 : ∀ (ps : List T_api_Pair), (∀ p ∈ ps, (B8 p.Key ∧ B8 p.Val) ∧ p.Key.length ≤ 25 ∧ p.Val.length ≤ 24) → B8 (layPs ps)
  | [], _ => B8.nil
  | p :: ps, h => by
    have hp := h p (List.mem_cons_self ..)
    exact ((tx_8 hp.1.1 (by omega)).append (tx_8 hp.1.2 (by omega))).append (layPs_8 ps fun q hq => h q (List.mem_cons_of_mem _ hq))
theorem layKs_8 : ∀ (ks : List (List Int)) (cs : List Int), (∀ k ∈ ks, B8 k ∧ k.length ≤ 25) → B8 (layKs ks cs)
  | k :: ks, c :: cs, h => by
    have hk := h k (List.mem_cons_self ..)
    exact (tx_8 hk.1 (by omega)).append ((be_B8 _ _).append (layKs_8 ks cs fun q hq => h q (List.mem_cons_of_mem _ hq)))
  | [], _, _ => by unfold layKs; exact B8.nil
  | _ :: _, [], _ => by unfold layKs; exact B8.nil
theorem MayP.key {n : T_api_Node} (m : MayP n) {k : List Int} (h : k ∈ n.Keys) : k.length ≤ 25 := (rise_keys _ _ m.keys k (List.mem_append_right _ h)).2
theorem MayP.pkey {n : T_api_Node} (m : MayP n) {p : T_api_Pair} (h : p ∈ n.Pairs) : p.Key.length ≤ 25 := (rise_keys _ _ m.keys p.Key (List.mem_append_left _ (List.mem_map_of_mem h))).2
theorem layN_8 {n : T_api_Node} (m : MayP n) (r : Raw n) : B8 (layN n) := by
  unfold layN
  cases hl : n.Leaf with
  | true =>
    obtain ⟨h1, h2, _, _⟩ := m.leaf hl
    simp only [if_true]
    exact B8.cons (by omega) (layPs_8 _ fun p hp => ⟨r.pairs p hp, m.pkey hp, h1 p hp⟩)
  | false =>
    have hi := (m.inner hl).2.2.2.1
    simp only [Bool.false_eq_true, if_false]
    exact B8.cons (by omega) ((be_B8 _ _).append (layKs_8 _ _ fun k hk => ⟨r.keys k hk, m.key hk⟩))
end Go.Proofs.Ytefjbhogpgihaaa
