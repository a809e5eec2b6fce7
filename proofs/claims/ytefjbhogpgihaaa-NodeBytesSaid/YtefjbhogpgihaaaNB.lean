/- Plain laws of node: what a node's page bears, and the node of it. -/
import Derived.Test.YtefjbhogpgihaaaNK
import Derived.Test.YtefjbhogpgihaaaPK
set_option linter.unusedVariables false
set_option maxRecDepth 20000
namespace Go.Proofs.Ytefjbhogpgihaaa
open Go Go.SX
theorem equal_ok {k l : List Int} (h1 : B8 k) (h2 : B8 l) : g34 k l = some (decide (k = l)) := by
  unfold g34
  congr 1
  rw [decide_eq_decide]
  exact str_eq h1 h2
def layP (p : T_api_Pair) : List Int := tx p.Key ++ tx p.Val
def layPs (ps : List T_api_Pair) : List Int := (ps.map layP).flatten
def layKs : List (List Int) → List Int → List Int
  | k :: ks, c :: cs => tx k ++ (be 2 c.toNat ++ layKs ks cs)
  | _, _ => []
def layN (n : T_api_Node) : List Int := if n.Leaf then (n.Pairs.length : Int) :: layPs n.Pairs else (n.Keys.length : Int) :: (be 2 (n.Kids.headD 0).toNat ++ layKs n.Keys n.Kids.tail)
theorem layPs_cons (p : T_api_Pair) (ps : List T_api_Pair) : layPs (p :: ps) = layP p ++ layPs ps := rfl
theorem layPs_len (ps : List T_api_Pair) : (layPs ps).length = (ps.map fun p => 2 + p.Key.length + p.Val.length).sum := by
  induction ps with
  | nil => rfl
  | cons p ps ih => rw [layPs_cons, List.length_append, ih, List.map_cons, List.sum_cons, layP, List.length_append, tx_len, tx_len]; omega
theorem layKs_len : ∀ (ks : List (List Int)) (cs : List Int), cs.length = ks.length → (layKs ks cs).length = (ks.map fun k => 3 + k.length).sum
  | [], [], _ => rfl
  | k :: ks, c :: cs, h => by
    rw [layKs, List.length_append, List.length_append, be_len, tx_len, layKs_len ks cs (by simpa using h), List.map_cons, List.sum_cons]; omega
  | [], _ :: _, h => by simp at h
  | _ :: _, [], h => by simp at h
theorem layN_len {n : T_api_Node} (m : MayP n) : (layN n).length = sizeN n := by
  unfold layN sizeN widths
  cases hl : n.Leaf with
  | true => simp only [if_true]; rw [List.length_cons, layPs_len]; omega
  | false =>
    have hi := (m.inner hl).2.2.2.2
    simp only [Bool.false_eq_true, if_false]
    rw [List.length_cons, List.length_append, be_len, layKs_len _ _ (by rw [List.length_tail]; omega)]; omega
/-- All of a node is bytes. -/
structure Raw (n : T_api_Node) : Prop where
  pairs : ∀ p ∈ n.Pairs, B8 p.Key ∧ B8 p.Val
  keys : ∀ k ∈ n.Keys, B8 k
theorem okN.raw {n : T_api_Node} (h : okN n) : Raw n := ⟨fun p hp => ⟨B8.of_wf (h.2.1.2 p hp).1.2, B8.of_wf (h.2.1.2 p hp).2.2⟩, fun k hk => B8.of_wf (h.2.2.1.2 k hk).2⟩
theorem layPs_8 : ∀ (ps : List T_api_Pair), (∀ p ∈ ps, (B8 p.Key ∧ B8 p.Val) ∧ p.Key.length ≤ 25 ∧ p.Val.length ≤ 24) → B8 (layPs ps)
  | [], _ => B8.nil
  | p :: ps, h => by
    have hp := h p (List.mem_cons_self ..)
    exact ((tx_8 hp.1.1 (by omega)).append (tx_8 hp.1.2 (by omega))).append (layPs_8 ps fun q hq => h q (List.mem_cons_of_mem _ hq))
theorem layKs_8 : ∀ (ks : List (List Int)) (cs : List Int), (∀ k ∈ ks, B8 k ∧ k.length ≤ 25) → B8 (layKs ks cs)
  | k :: ks, c :: cs, h => by
    have hk := h k (List.mem_cons_self ..)
    exact (tx_8 hk.1 (by omega)).append ((be_B8 _ _).append (layKs_8 ks cs fun q hq => h q (List.mem_cons_of_mem _ hq)))
  | [], _, _ => by unfold layKs; exact B8.nil
  | _ :: _, [], _ => by unfold layKs; exact B8.nil
theorem MayP.key {n : T_api_Node} (m : MayP n) {k : List Int} (h : k ∈ n.Keys) : k.length ≤ 25 := (rise_keys _ _ m.keys k (List.mem_append_right _ h)).2
theorem MayP.pkey {n : T_api_Node} (m : MayP n) {p : T_api_Pair} (h : p ∈ n.Pairs) : p.Key.length ≤ 25 := (rise_keys _ _ m.keys p.Key (List.mem_append_left _ (List.mem_map_of_mem h))).2
theorem layN_8 {n : T_api_Node} (m : MayP n) (r : Raw n) : B8 (layN n) := by
  unfold layN
  cases hl : n.Leaf with
  | true =>
    obtain ⟨h1, h2, _, _⟩ := m.leaf hl
    simp only [if_true]
    exact B8.cons (by omega) (layPs_8 _ fun p hp => ⟨r.pairs p hp, m.pkey hp, h1 p hp⟩)
  | false =>
    have hi := (m.inner hl).2.2.2.1
    simp only [Bool.false_eq_true, if_false]
    exact B8.cons (by omega) ((be_B8 _ _).append (layKs_8 _ _ fun k hk => ⟨r.keys k hk, m.key hk⟩))
/-! ### Put -/
noncomputable def chkN (n : T_api_Node) : Int := if mayB n = true then (if 240 < sizeN n then 3 else 0) else 100
theorem checkN_ok {n : T_api_Node} (hf : Fine n) : g26 n = some (chkN n) := by
  unfold g26 chkN
  rw [may_ok hf, Option.bind_some]
  by_cases h : mayB n = true
  · rw [if_neg (by simp [h]), size_ok ((mayB_iff n).1 h), Option.bind_some, if_pos h]
    by_cases h2 : 240 < sizeN n
    · rw [if_pos (show ((sizeN n : Nat) : Int) > 240 by omega), if_pos h2]
    · rw [if_neg (show ¬ ((sizeN n : Nat) : Int) > 240 by omega), if_neg h2]
  · rw [if_pos h, if_neg h]
theorem text1 {b t : List Int} (ht : t.length ≤ 255) (hb : b.length ≤ 1000000000) : g67 b t = some (b ++ tx t) := by
  unfold g67
  rw [text_ok ht hb]; rfl
theorem appZ_ok {b : List Int} (h : b.length ≤ 240) : appZI b (IntKind.i64.wrap (240 - (b.length : Int))) 0 1 = some (b ++ List.replicate (240 - b.length) 0) := by
  rw [i64_in _ (by omega)]
  unfold appZI
  rw [if_pos (by omega), show ((240 : Int) - (b.length : Int)).toNat = 240 - b.length by omega]
theorem put_l3 {n : T_api_Node} (m : MayP n) (hl : n.Leaf = false) (kind : Int) : ∀ (fuel i : Nat) (b : List Int), i ≤ n.Keys.length → n.Keys.length - i < fuel → b.length + (layKs (n.Keys.drop i) (n.Kids.drop (i + 1))).length ≤ 240 →
    g30_l3 n kind fuel b (i : Int) = some (kind, (b ++ layKs (n.Keys.drop i) (n.Kids.drop (i + 1))) ++ List.replicate (240 - (b ++ layKs (n.Keys.drop i) (n.Kids.drop (i + 1))).length) 0, 0) := by
  obtain ⟨i1, i2, i3, i4, i5⟩ := m.inner hl
  intro fuel
  induction fuel with
  | zero => intro i b _ h; omega
  | succ f ih =>
    intro i b hi hf hb
    show g30_l3B n kind (g30_l3 n kind f) b (i : Int) = _
    unfold g30_l3B
    by_cases h : i < n.Keys.length
    · have hx := List.getElem?_eq_getElem h
      have hk := m.key (List.mem_of_getElem? hx)
      have hc : i + 1 < n.Kids.length := by omega
      have hy := List.getElem?_eq_getElem hc
      have hyb := i1 _ (List.mem_of_getElem? hy)
      have e1 : layKs (n.Keys.drop i) (n.Kids.drop (i + 1)) = tx n.Keys[i] ++ (be 2 n.Kids[i + 1].toNat ++ layKs (n.Keys.drop (i + 1)) (n.Kids.drop (i + 1 + 1))) := by
        rw [List.drop_eq_getElem_cons h, List.drop_eq_getElem_cons hc, layKs]
      rw [e1] at hb ⊢
      simp only [List.length_append, tx_len, be_len] at hb
      have e2 : IntKind.u16.wrap n.Kids[i + 1] = ((n.Kids[i + 1].toNat : Nat) : Int) := by rw [u16_in _ (by omega)]; omega
      rw [if_pos (by omega), getI_nat, hx, Option.bind_some, i64_in _ (by omega), show (i : Int) + 1 = ((i + 1 : Nat) : Int) by omega, getI_nat, hy, Option.bind_some, text1 (by omega) (by omega), Option.bind_some, e2, u16_ok (by omega) (by simp [tx_len]; omega), Option.bind_some]
      rw [ih (i + 1) _ (by omega) (by omega) (by simp only [List.length_append, tx_len, be_len]; omega)]
      simp only [List.append_assoc]
    · have e1 : layKs (n.Keys.drop i) (n.Kids.drop (i + 1)) = [] := by rw [List.drop_of_length_le (by omega)]; rfl
      rw [e1] at hb ⊢
      rw [List.append_nil, if_neg (by omega), appZ_ok (by simpa using hb)]
      rfl
theorem put_l1 {n : T_api_Node} (m : MayP n) (hl : n.Leaf = true) : ∀ (fuel i : Nat) (b : List Int), i ≤ n.Pairs.length → n.Pairs.length - i < fuel → b.length + (layPs (n.Pairs.drop i)).length ≤ 240 →
    g30_l1 n fuel b (i : Int) = g30_j2 n (b ++ layPs (n.Pairs.drop i)) 3 := by
  obtain ⟨i1, i2, i3, i4⟩ := m.leaf hl
  intro fuel
  induction fuel with
  | zero => intro i b _ h; omega
  | succ f ih =>
    intro i b hi hf hb
    show g30_l1B n (g30_l1 n f) b (i : Int) = _
    unfold g30_l1B
    by_cases h : i < n.Pairs.length
    · have hx := List.getElem?_eq_getElem h
      have hk := m.pkey (List.mem_of_getElem? hx)
      have hv := i1 _ (List.mem_of_getElem? hx)
      rw [List.drop_eq_getElem_cons h, layPs_cons] at hb ⊢
      simp only [List.length_append, layP, tx_len] at hb
      rw [if_pos (by omega), getI_nat, hx, Option.bind_some, text1 (by omega) (by omega), Option.bind_some, text1 (by omega) (by simp [tx_len]; omega), Option.bind_some, i64_in _ (by omega), show (i : Int) + 1 = ((i + 1 : Nat) : Int) by omega]
      rw [ih (i + 1) _ (by omega) (by omega) (by simp only [List.length_append, tx_len]; omega)]
      simp only [List.append_assoc, layP]
    · rw [if_neg (by omega), List.drop_of_length_le (by omega), if_neg (by simp [hl])]
      simp [layPs]
def kindN (n : T_api_Node) : Int := if n.Leaf then 3 else 4
def padN (n : T_api_Node) : List Int := layN n ++ List.replicate (240 - (layN n).length) 0
theorem put_fits {n : T_api_Node} (hf : Fine n) (m : MayP n) (hs : sizeN n ≤ 240) : g30 n = some (kindN n, padN n, 0) := by
  have hb := (mayB_iff n).2 m
  have hlen := layN_len m
  unfold g30
  rw [checkN_ok hf, Option.bind_some]
  unfold chkN
  rw [if_pos hb, if_neg (show ¬ 240 < sizeN n by omega), if_neg (by decide)]
  unfold g66 kindN padN
  cases hl : n.Leaf with
  | true =>
    obtain ⟨i1, i2, i3, i4⟩ := m.leaf hl
    unfold layN at hlen ⊢
    rw [hl] at hlen ⊢
    simp only [if_true, List.length_cons] at hlen ⊢
    rw [i3, i64_in _ (by simp; omega), Option.bind_some, Option.bind_some]
    have e1 : IntKind.u8.wrap ((n.Pairs.length : Int) + (([] : List (List Int)).length : Int)) = (n.Pairs.length : Int) := by rw [u8_in _ (by simp; omega)]; simp
    rw [e1]
    have h1 := put_l1 m hl FUEL 0 [(n.Pairs.length : Int)] (by omega) (by unfold FUEL; omega) (by rw [List.drop_zero]; simp; omega)
    rw [show ((0 : Nat) : Int) = 0 from rfl, List.drop_zero] at h1
    rw [h1]
    unfold g30_j2
    -- no keys are left
    obtain ⟨f, hF⟩ : ∃ f, FUEL = f + 1 := ⟨FUEL - 1, by unfold FUEL; decide⟩
    rw [hF]
    show g30_l3B n 3 (g30_l3 n 3 f) _ 0 = _
    unfold g30_l3B
    rw [i3, if_neg (by simp), appZ_ok (by simp; omega), Option.bind_some]
    simp only [List.cons_append, List.nil_append, List.length_cons]
  | false =>
    obtain ⟨i1, i2, i3, i4, i5⟩ := m.inner hl
    unfold layN at hlen ⊢
    rw [hl] at hlen ⊢
    simp only [Bool.false_eq_true, if_false, List.length_cons, List.length_append, be_len] at hlen ⊢
    rw [i2, i64_in _ (by simp; omega), Option.bind_some, Option.bind_some]
    have e1 : IntKind.u8.wrap ((([] : List T_api_Pair).length : Int) + (n.Keys.length : Int)) = (n.Keys.length : Int) := by rw [u8_in _ (by simp; omega)]; simp
    rw [e1]
    obtain ⟨f, hF⟩ : ∃ f, FUEL = f + 1 := ⟨FUEL - 1, by unfold FUEL; decide⟩
    rw [hF]
    show g30_l1B n (g30_l1 n f) _ 0 = _
    unfold g30_l1B
    obtain ⟨c0, cs, hk0⟩ : ∃ c cs, n.Kids = c :: cs := List.exists_cons_of_length_pos (by omega)
    have hyb := i1 c0 (by rw [hk0]; exact List.mem_cons_self ..)
    have g0 : getI n.Kids 0 = some c0 := by rw [hk0]; rfl
    have e2 : IntKind.u16.wrap c0 = ((c0.toNat : Nat) : Int) := by rw [u16_in _ (by omega)]; omega
    have e3 : n.Kids.headD 0 = c0 := by rw [hk0]; rfl
    rw [i2, if_neg (by simp), if_pos (by simp [hl]), g0, Option.bind_some, e2, u16_ok (by omega) (by simp), Option.bind_some]
    unfold g30_j2
    have h3 := put_l3 m hl 4 FUEL 0 ([(n.Keys.length : Int)] ++ be 2 c0.toNat) (by omega) (by unfold FUEL; omega) (by rw [List.drop_zero, List.drop_one]; simp only [List.length_append, be_len, List.length_cons, List.length_nil]; omega)
    rw [show ((0 : Nat) : Int) = 0 from rfl, List.drop_zero, List.drop_one] at h3
    rw [h3, e3]
    simp only [List.cons_append, List.nil_append, List.append_assoc, List.length_cons, List.length_append, be_len]
theorem put_any {n : T_api_Node} (hf : Fine n) : g30 n = some (if chkN n = 0 then (kindN n, padN n, 0) else (0, [], chkN n)) := by
  by_cases h : chkN n = 0
  · rw [if_pos h]
    unfold chkN at h
    split at h
    · rename_i hm
      split at h
      · cases h
      · exact put_fits hf ((mayB_iff n).1 hm) (by omega)
    · cases h
  · rw [if_neg h]
    unfold g30
    rw [checkN_ok hf, Option.bind_some, if_pos h]
theorem chkN_zero {n : T_api_Node} (h : chkN n = 0) : MayP n ∧ sizeN n ≤ 240 := by
  unfold chkN at h
  split at h
  · rename_i hm
    split at h
    · cases h
    · exact ⟨(mayB_iff n).1 hm, by omega⟩
  · cases h
theorem padN_len {n : T_api_Node} (m : MayP n) (hs : sizeN n ≤ 240) : (padN n).length = 240 := by
  unfold padN
  rw [List.length_append, List.length_replicate, layN_len m]; omega
theorem padN_8 {n : T_api_Node} (m : MayP n) (r : Raw n) : B8 (padN n) := (layN_8 m r).append (B8.rep _)
end Go.Proofs.Ytefjbhogpgihaaa
