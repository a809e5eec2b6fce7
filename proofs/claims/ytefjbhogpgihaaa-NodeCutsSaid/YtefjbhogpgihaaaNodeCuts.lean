/- The plain law of NodeCuts. -/
import Derived.Test.YtefjbhogpgihaaaNLw
import Derived.Test.YtefjbhogpgihaaaNOw
set_option linter.unusedVariables false
set_option maxRecDepth 20000
namespace Go.Proofs.Ytefjbhogpgihaaa
open Go Go.SX
def M0 : T_api_Node := ⟨false, [], [], []⟩
theorem M0.fine : Fine M0 := ⟨by show (0 : Nat) < _; omega, by show (0 : Nat) < _; omega, by show (0 : Nat) < _; omega⟩
theorem rown_ok (b : List Int) (hb : b.length ≤ 1000) : g58 b = some b := by
  unfold g58
  rw [appI_ok (by simp; omega)]
  rfl
/-! ### Clone -/
theorem Clone_ok {n : T_api_Node} (hw : fewN n) : g25 n = some n := by
  obtain ⟨w1, w2, w3, w4, w5⟩ := hw
  have l3 : ∀ (fuel i : Nat), i ≤ n.Keys.length → n.Keys.length - i < fuel → g25_l3 n n.Kids n.Pairs fuel (i : Int) (n.Keys.take i) = some n := by
    intro fuel
    induction fuel with
    | zero => intro i _ h; omega
    | succ f ih =>
      intro i hi hf
      show g25_l3B n n.Kids n.Pairs (g25_l3 n n.Kids n.Pairs f) (i : Int) (n.Keys.take i) = _
      unfold g25_l3B
      by_cases h : i < n.Keys.length
      · have hk := w5 _ (List.getElem_mem h)
        rw [if_pos (by omega), getI_nat, List.getElem?_eq_getElem h, Option.bind_some, own_ok _ (by omega), Option.bind_some, appI_ok (by simp; omega), Option.bind_some, List.take_append_getElem h, i64_in _ (by omega), show (i : Int) + 1 = ((i + 1 : Nat) : Int) by omega]
        exact ih (i + 1) (by omega) (by omega)
      · rw [if_neg (by omega), List.take_of_length_le (by omega)]
  have l2 : ∀ (fuel i : Nat), i ≤ n.Pairs.length → n.Pairs.length - i < fuel → g25_l2 n n.Kids fuel (i : Int) (n.Pairs.take i) = some n := by
    intro fuel
    induction fuel with
    | zero => intro i _ h; omega
    | succ f ih =>
      intro i hi hf
      show g25_l2B n n.Kids (g25_l2 n n.Kids f) (i : Int) (n.Pairs.take i) = _
      unfold g25_l2B
      by_cases h : i < n.Pairs.length
      · have hk := w4 _ (List.getElem_mem h)
        rw [if_pos (by omega), getI_nat, List.getElem?_eq_getElem h, Option.bind_some, ownPair_ok (by omega) (by omega), Option.bind_some, appI_ok (by simp; omega), Option.bind_some, List.take_append_getElem h, i64_in _ (by omega), show (i : Int) + 1 = ((i + 1 : Nat) : Int) by omega]
        exact ih (i + 1) (by omega) (by omega)
      · rw [if_neg (by omega), List.take_of_length_le (by omega)]
        have := l3 FUEL 0 (by omega) (by unfold FUEL; omega)
        rw [List.take_zero] at this
        exact this
  have := l2 FUEL 0 (by omega) (by unfold FUEL; omega)
  rw [List.take_zero] at this
  unfold g25 g59 g25_j1
  rw [appI_ok (by simp; omega), Option.bind_some, Option.bind_some]
  exact this
theorem rClone_ok {n : T_api_Node} (hw : fewN n) : g24 n = some n := by
  obtain ⟨w1, w2, w3, w4, w5⟩ := hw
  have l3 : ∀ (fuel i : Nat), i ≤ n.Keys.length → n.Keys.length - i < fuel → g24_l3 n n.Kids n.Pairs fuel (i : Int) (n.Keys.take i) = some n := by
    intro fuel
    induction fuel with
    | zero => intro i _ h; omega
    | succ f ih =>
      intro i hi hf
      show g24_l3B n n.Kids n.Pairs (g24_l3 n n.Kids n.Pairs f) (i : Int) (n.Keys.take i) = _
      unfold g24_l3B
      by_cases h : i < n.Keys.length
      · have hk := w5 _ (List.getElem_mem h)
        rw [if_pos (by omega), getI_nat, List.getElem?_eq_getElem h, Option.bind_some, rown_ok _ (by omega), Option.bind_some, appI_ok (by simp; omega), Option.bind_some, List.take_append_getElem h, i64_in _ (by omega), show (i : Int) + 1 = ((i + 1 : Nat) : Int) by omega]
        exact ih (i + 1) (by omega) (by omega)
      · rw [if_neg (by omega), List.take_of_length_le (by omega)]
  have l2 : ∀ (fuel i : Nat), i ≤ n.Pairs.length → n.Pairs.length - i < fuel → g24_l2 n n.Kids fuel (i : Int) (n.Pairs.take i) = some n := by
    intro fuel
    induction fuel with
    | zero => intro i _ h; omega
    | succ f ih =>
      intro i hi hf
      show g24_l2B n n.Kids (g24_l2 n n.Kids f) (i : Int) (n.Pairs.take i) = _
      unfold g24_l2B
      by_cases h : i < n.Pairs.length
      · have hk := w4 _ (List.getElem_mem h)
        rw [if_pos (by omega), getI_nat, List.getElem?_eq_getElem h, Option.bind_some, Option.bind_some, rown_ok _ (by omega), Option.bind_some, rown_ok _ (by omega), Option.bind_some, appI_ok (by simp; omega), Option.bind_some, List.take_append_getElem h, i64_in _ (by omega), show (i : Int) + 1 = ((i + 1 : Nat) : Int) by omega]
        exact ih (i + 1) (by omega) (by omega)
      · rw [if_neg (by omega), List.take_of_length_le (by omega)]
        have := l3 FUEL 0 (by omega) (by unfold FUEL; omega)
        rw [List.take_zero] at this
        exact this
  have := l2 FUEL 0 (by omega) (by unfold FUEL; omega)
  rw [List.take_zero] at this
  unfold g24 g24_j1
  rw [appI_ok (by simp; omega), Option.bind_some]
  exact this
/-! ### Halves -/
theorem rise_left : ∀ (l : Option (List Int)) (xs ys : List (List Int)), rise l (xs ++ ys) → rise l xs
  | _, [], _, _ => trivial
  | l, x :: xs, ys, h => ⟨h.1, h.2.1, rise_left (some x) xs ys h.2.2⟩
theorem rise_weak : ∀ (l : Option (List Int)) (xs : List (List Int)), rise l xs → rise none xs
  | _, [], _ => trivial
  | l, x :: xs, h => ⟨h.1, fun _ e => (by cases e), h.2.2⟩
theorem rise_right : ∀ (l : Option (List Int)) (xs ys : List (List Int)), rise l (xs ++ ys) → rise none ys
  | l, [], ys, h => rise_weak l ys h
  | l, x :: xs, ys, h => rise_right (some x) xs ys h.2.2
def lastN (n : T_api_Node) : Nat := if n.Leaf then n.Pairs.length else n.Keys.length - 1
theorem halves_ok {n : T_api_Node} (hw : fewN n) (m : MayP n) {i : Nat} (h1 : 1 ≤ i) (h2 : i < lastN n) : ∃ A k B, g75 n (i : Int) = some (A, k, B) ∧ g77 n (i : Int) = some (A, k, B) ∧ MayP A ∧ MayP B ∧ fewN A ∧ fewN B ∧ k.length ≤ 300 := by
  obtain ⟨w1, w2, w3, w4, w5⟩ := hw
  have ei : IntKind.i64.wrap ((i : Int) + 1) = ((i + 1 : Nat) : Int) := by
    have : i < 1000 := by unfold lastN at h2; split at h2 <;> omega
    rw [i64_in _ (by omega)]; omega
  unfold g75 g77
  unfold lastN at h2
  cases hl : n.Leaf with
  | true =>
    obtain ⟨v1, v2, v3, v4⟩ := m.leaf hl
    rw [hl, if_pos rfl] at h2
    have hr := m.keys
    rw [v3, List.append_nil, ← List.take_append_drop i n.Pairs, List.map_append] at hr
    rw [if_pos rfl, if_pos rfl, if_pos (by omega), cutI_to (by omega), Option.bind_some, getI_nat, List.getElem?_eq_getElem h2, Option.bind_some, cutI_from (by omega)]
    simp only [Option.bind_some]
    refine ⟨_, _, _, rfl, rfl, ⟨?_, fun _ => ⟨fun p hp => v1 p (List.mem_of_mem_take hp), by simp; omega, rfl, rfl⟩, fun h => by cases h⟩, ⟨?_, fun _ => ⟨fun p hp => v1 p (List.mem_of_mem_drop hp), by simp; omega, rfl, rfl⟩, fun h => by cases h⟩,
      ⟨by simp; omega, by simp, by simp, fun p hp => w4 p (List.mem_of_mem_take hp), fun k hk => by cases hk⟩, ⟨by simp; omega, by simp, by simp, fun p hp => w4 p (List.mem_of_mem_drop hp), fun k hk => by cases hk⟩, (w4 _ (List.getElem_mem h2)).1⟩
    · show rise none ((n.Pairs.take i).map (·.Key) ++ [])
      rw [List.append_nil]; exact rise_left _ _ _ hr
    · show rise none ((n.Pairs.drop i).map (·.Key) ++ [])
      rw [List.append_nil]; exact rise_right _ _ _ hr
  | false =>
    obtain ⟨v1, v2, v3, v4, v5⟩ := m.inner hl
    rw [hl, if_neg (show ¬ (false = true) by decide)] at h2
    have hlt : i < n.Keys.length := by omega
    have hr := m.keys
    rw [v2, List.map_nil, List.nil_append] at hr
    have hr1 := hr
    rw [← List.take_append_drop i n.Keys] at hr1
    have hr2 := hr
    rw [← List.take_append_drop (i + 1) n.Keys] at hr2
    rw [if_neg (show ¬ (false = true) by decide), if_neg (show ¬ (false = true) by decide), ei, if_pos (by omega), cutI_to (xs := n.Keys) (by omega), Option.bind_some, Option.bind_some, if_pos (by omega), cutI_to (xs := n.Kids) (by omega), getI_nat, List.getElem?_eq_getElem hlt, cutI_from (xs := n.Keys) (by omega), cutI_from (xs := n.Kids) (by omega)]
    simp only [Option.bind_some]
    refine ⟨_, _, _, rfl, rfl, ⟨?_, fun h => (by cases h), fun _ => ⟨fun k hk => v1 k (List.mem_of_mem_take hk), rfl, by simp; omega, by simp; omega, by simp; omega⟩⟩, ⟨?_, fun h => (by cases h), fun _ => ⟨fun k hk => v1 k (List.mem_of_mem_drop hk), rfl, by simp; omega, by simp; omega, by simp; omega⟩⟩,
      ⟨by simp, by simp; omega, by simp; omega, fun p hp => (by cases hp), fun k hk => w5 k (List.mem_of_mem_take hk)⟩, ⟨by simp, by simp; omega, by simp; omega, fun p hp => (by cases hp), fun k hk => w5 k (List.mem_of_mem_drop hk)⟩, w5 _ (List.getElem_mem hlt)⟩
    · show rise none ([] ++ n.Keys.take i)
      exact rise_left _ _ _ hr1
    · show rise none ([] ++ n.Keys.drop (i + 1))
      exact rise_right _ _ _ hr2
theorem sizeN_le {n : T_api_Node} (m : MayP n) : sizeN n ≤ 13008 := by
  obtain ⟨a, b, _⟩ := widths_le m
  have := sum_le _ a
  have h3 : (if n.Leaf = true then 1 else 3) ≤ 3 := by split <;> omega
  unfold sizeN
  have : 51 * (widths n).length ≤ 51 * 255 := Nat.mul_le_mul_left _ b
  omega
theorem rSize_ok {n : T_api_Node} (hf : Fine n) (m : MayP n) : g28 n = some ((sizeN n : Nat) : Int) := by
  unfold g28
  rw [refMay_ok hf, Option.bind_some, if_neg (by simp [(mayB_iff n).2 m]), rlay_ok m, Option.bind_some, layN_len m]
theorem cut_loops {n : T_api_Node} (hw : fewN n) (m : MayP n) : ∀ (fuel i : Nat) (best : Int) (at_ : Nat), 1 ≤ i → lastN n + 1 - i < fuel → at_ = 0 ∨ (1 ≤ at_ ∧ at_ < lastN n) →
    ∃ r, g35_l2 n (lastN n : Int) fuel best (at_ : Int) (i : Int) = some r ∧ g36_l2 n (lastN n : Int) fuel (at_ : Int) best (i : Int) = some r ∧ Fine r.1 ∧ Fine r.2.2.1 := by
  have hlast : lastN n ≤ 300 := by unfold lastN; have := hw.1; have := hw.2.1; split <;> omega
  intro fuel
  induction fuel with
  | zero => intro i _ _ _ h; omega
  | succ f ih =>
    intro i best at_ hi hf hat
    show ∃ r, g35_l2B n (lastN n : Int) (g35_l2 n (lastN n : Int) f) best (at_ : Int) (i : Int) = some r ∧ g36_l2B n (lastN n : Int) (g36_l2 n (lastN n : Int) f) (at_ : Int) best (i : Int) = some r ∧ _
    unfold g35_l2B g36_l2B
    by_cases h : i < lastN n
    · obtain ⟨A, k, B, e1, e2, mA, mB, fA, fB, hk⟩ := halves_ok hw m hi h
      have sA := sizeN_le mA
      have sB := sizeN_le mB
      have ei : IntKind.i64.wrap ((i : Int) + 1) = ((i + 1 : Nat) : Int) := by rw [i64_in _ (by omega)]; omega
      have hd : g76 (sizeN A : Int) (sizeN B : Int) = some ((((sizeN A : Int) - (sizeN B : Int)).natAbs : Nat) : Int) := by
        unfold g76
        rw [i64_in ((sizeN B : Int) - (sizeN A : Int)) (by omega), i64_in ((sizeN A : Int) - (sizeN B : Int)) (by omega), Option.bind_some]
        congr 1
        split <;> omega
      rw [if_pos (by omega), if_pos (by omega), e1, e2, Option.bind_some, Option.bind_some]
      simp only
      rw [size_ok mA, size_ok mB, rSize_ok fA.fine mA, rSize_ok fB.fine mB, Option.bind_some, Option.bind_some, Option.bind_some, Option.bind_some, hd, Option.bind_some, i64_in ((sizeN A : Int) - (sizeN B : Int)) (by omega)]
      have hr : (if (sizeN A : Int) - (sizeN B : Int) < 0 then (some (IntKind.i64.wrap (0 - ((sizeN A : Int) - (sizeN B : Int))))).bind fun x => g36_j3 (at_ : Int) best (i : Int) (g36_l2 n (lastN n : Int) f) x else g36_j3 (at_ : Int) best (i : Int) (g36_l2 n (lastN n : Int) f) ((sizeN A : Int) - (sizeN B : Int))) = g36_j3 (at_ : Int) best (i : Int) (g36_l2 n (lastN n : Int) f) ((((sizeN A : Int) - (sizeN B : Int)).natAbs : Nat) : Int) := by
        by_cases c : (sizeN A : Int) - (sizeN B : Int) < 0
        · rw [if_pos c, i64_in _ (by omega), Option.bind_some]
          congr 1
          omega
        · rw [if_neg c]
          congr 1
          omega
      rw [hr]
      unfold g36_j3 g36_j4 g35_j3
      by_cases c0 : (at_ : Int) = 0
      · rw [if_pos c0, if_pos c0, if_pos rfl, if_pos rfl, ei]
        exact ih (i + 1) _ i (by omega) (by omega) (.inr ⟨hi, h⟩)
      · rw [if_neg c0, if_neg c0]
        by_cases c1 : ((((sizeN A : Int) - (sizeN B : Int)).natAbs : Nat) : Int) < best
        · rw [if_pos (decide_eq_true c1), if_pos (decide_eq_true c1), ei]
          exact ih (i + 1) _ i (by omega) (by omega) (.inr ⟨hi, h⟩)
        · rw [if_neg (by simpa using c1), if_neg (by simpa using c1), ei]
          exact ih (i + 1) _ at_ (by omega) (by omega) hat
    · rw [if_neg (show ¬ (i : Int) < (lastN n : Int) by omega), if_neg (show ¬ (i : Int) < (lastN n : Int) by omega)]
      by_cases c0 : (at_ : Int) = 0
      · rw [if_pos c0, if_pos c0]
        exact ⟨_, rfl, rfl, M0.fine, M0.fine⟩
      · obtain ⟨A, k, B, e1, e2, mA, mB, fA, fB, hk⟩ := halves_ok hw m (i := at_) (by omega) (by omega)
        rw [if_neg c0, if_neg c0, Clone_ok hw, Option.bind_some, e1, e2, Option.bind_some, Option.bind_some]
        simp only
        rw [own_ok _ (by omega), rClone_ok fA, Option.bind_some, Option.bind_some, rown_ok _ (by omega), Option.bind_some, rClone_ok fB, Option.bind_some]
        exact ⟨_, rfl, rfl, fA.fine, fB.fine⟩
theorem cut_same {n : T_api_Node} (hw : fewN n) : ∃ r, g35 n = some r ∧ g36 n = some r ∧ Fine r.1 ∧ Fine r.2.2.1 := by
  unfold g35 g36 g66
  rw [may_ok hw.fine, refMay_ok hw.fine]
  simp only [Option.bind_some]
  by_cases h : mayB n = true
  · have m := (mayB_iff n).1 h
    have w1 := hw.1
    have w2 := hw.2.1
    rw [if_neg (show ¬ ¬ (mayB n = true) from fun f => f h), if_neg (show ¬ ¬ (mayB n = true) from fun f => f h), i64_in ((n.Pairs.length : Int) + (n.Keys.length : Int)) (by omega)]
    unfold g35_j1 g36_j1
    obtain ⟨r, e1, e2, f1, f2⟩ := cut_loops hw m FUEL 1 0 0 (by omega) (by unfold FUEL lastN; split <;> omega) (.inl rfl)
    refine ⟨r, ?_, ?_, f1, f2⟩
    · cases hl : n.Leaf with
      | true =>
        have := (m.leaf hl).2.2.1
        rw [if_neg (by simp), show (n.Pairs.length : Int) + (n.Keys.length : Int) = (lastN n : Int) by unfold lastN; rw [hl, if_pos rfl, this]; simp]
        exact e1
      | false =>
        have := (m.inner hl).2.2.1
        have hp := (m.inner hl).2.1
        rw [if_pos (by simp), show IntKind.i64.wrap ((n.Pairs.length : Int) + (n.Keys.length : Int) - 1) = (lastN n : Int) by unfold lastN; rw [hl, if_neg (by decide), hp, i64_in _ (by simp; omega)]; simp; omega]
        exact e1
    · cases hl : n.Leaf with
      | true =>
        rw [if_neg (by simp), show (n.Pairs.length : Int) = (lastN n : Int) by unfold lastN; rw [hl, if_pos rfl]]
        exact e2
      | false =>
        have := (m.inner hl).2.2.1
        rw [if_pos (by simp), show IntKind.i64.wrap ((n.Keys.length : Int) - 1) = (lastN n : Int) by unfold lastN; rw [hl, if_neg (by decide), i64_in _ (by omega)]; omega]
        exact e2
  · rw [if_pos (show ¬ (mayB n = true) from h), if_pos (show ¬ (mayB n = true) from h)]
    exact ⟨_, rfl, rfl, M0.fine, M0.fine⟩
/-! ### Join -/
theorem join_same {a b : T_api_Node} (ha : fewN a) (hb : fewN b) {key : List Int} (hk : key.length ≤ 300) : ∃ r, g37 a key b = some r ∧ g38 a key b = some r ∧ Fine r.1 := by
  obtain ⟨a1, a2, a3, a4, a5⟩ := ha
  obtain ⟨b1, b2, b3, b4, b5⟩ := hb
  have ha : fewN a := ⟨a1, a2, a3, a4, a5⟩
  have hb : fewN b := ⟨b1, b2, b3, b4, b5⟩
  have bad : ∃ r, g37_j4 a key b true = some r ∧ g38_j1 a key b true = some r ∧ Fine r.1 := by
    unfold g37_j4 g38_j1
    rw [if_pos rfl, if_pos rfl]
    exact ⟨_, rfl, rfl, M0.fine⟩
  unfold g37 g38
  rw [may_ok ha.fine, refMay_ok ha.fine, Option.bind_some, Option.bind_some]
  by_cases h1 : mayB a = true
  · rw [if_neg (show ¬ ¬ (mayB a = true) from fun f => f h1), if_neg (show ¬ ¬ (mayB a = true) from fun f => f h1), may_ok hb.fine, refMay_ok hb.fine, Option.bind_some, Option.bind_some]
    by_cases h2 : mayB b = true
    · rw [if_neg (show ¬ ¬ (mayB b = true) from fun f => f h2), if_neg (show ¬ ¬ (mayB b = true) from fun f => f h2)]
      by_cases h3 : a.Leaf = b.Leaf
      · have ma := (mayB_iff a).1 h1
        have mb := (mayB_iff b).1 h2
        rw [decide_eq_false (by simp [h3])]
        unfold g37_j4 g38_j1 g37_j1 g37_j2 g37_j3
        rw [if_neg (show ¬ (false = true) by decide), if_neg (show ¬ (false = true) by decide), Clone_ok ha, Clone_ok hb]
        simp only [Option.bind_some]
        cases hl : a.Leaf with
        | true =>
          obtain ⟨v1, v2, v3, v4⟩ := ma.leaf hl
          obtain ⟨u1, u2, u3, u4⟩ := mb.leaf (by rw [← h3, hl])
          have hf : Fine ⟨true, a.Pairs ++ b.Pairs, [], []⟩ := ⟨by show (a.Pairs ++ b.Pairs).length < _; rw [List.length_append]; omega, by show (0 : Nat) < _; omega, by show (0 : Nat) < _; omega⟩
          rw [if_neg (by simp), if_pos rfl, appI_ok (xs := a.Pairs) (by omega), appI_ok (xs := []) (ys := a.Pairs) (by simp; omega)]
          simp only [Option.bind_some, List.nil_append]
          rw [if_neg (by simp), appI_ok (xs := a.Pairs) (by omega), v3, v4]
          simp only [Option.bind_some]
          rw [may_ok hf, refMay_ok hf]
          simp only [Option.bind_some]
          by_cases hm : mayB ⟨true, a.Pairs ++ b.Pairs, [], []⟩ = true
          · rw [if_neg (fun f => f hm), if_neg (fun f => f hm), appI_ok (by simp), Option.bind_some]
            unfold g38_j3
            have l4 : ∀ (fuel i : Nat), i ≤ (a.Pairs ++ b.Pairs).length → (a.Pairs ++ b.Pairs).length - i < fuel → g38_l4 a (a.Pairs ++ b.Pairs) ([] ++ []) fuel (i : Int) ((a.Pairs ++ b.Pairs).take i) = some (⟨true, a.Pairs ++ b.Pairs, [], []⟩, 0) := by
              intro fuel
              induction fuel with
              | zero => intro i _ h; omega
              | succ f ih =>
                intro i hi hf
                have hlen : (a.Pairs ++ b.Pairs).length ≤ 600 := by rw [List.length_append]; omega
                show g38_l4B a (a.Pairs ++ b.Pairs) ([] ++ []) (g38_l4 a (a.Pairs ++ b.Pairs) ([] ++ []) f) (i : Int) ((a.Pairs ++ b.Pairs).take i) = _
                unfold g38_l4B
                by_cases h : i < (a.Pairs ++ b.Pairs).length
                · have hp : (a.Pairs ++ b.Pairs)[i].Key.length ≤ 300 ∧ (a.Pairs ++ b.Pairs)[i].Val.length ≤ 300 := by
                    rcases List.mem_append.1 (List.getElem_mem h) with h | h
                    · exact a4 _ h
                    · exact b4 _ h
                  rw [if_pos (by omega), getI_nat, List.getElem?_eq_getElem h, Option.bind_some, Option.bind_some, rown_ok _ (by omega), Option.bind_some, rown_ok _ (by omega), Option.bind_some, appI_ok (by rw [List.length_take]; simp; omega), Option.bind_some, show (⟨(a.Pairs ++ b.Pairs)[i].Key, (a.Pairs ++ b.Pairs)[i].Val⟩ : T_api_Pair) = (a.Pairs ++ b.Pairs)[i] from rfl, List.take_append_getElem h, i64_in _ (by omega), show (i : Int) + 1 = ((i + 1 : Nat) : Int) by omega]
                  exact ih (i + 1) (by omega) (by omega)
                · obtain ⟨g, hG⟩ : ∃ g, FUEL = g + 1 := ⟨FUEL - 1, by unfold FUEL; decide⟩
                  rw [if_neg (by omega), List.take_of_length_le (by omega), hG]
                  show g38_l5B a ([] ++ []) (a.Pairs ++ b.Pairs) (g38_l5 a ([] ++ []) (a.Pairs ++ b.Pairs) g) = _
                  unfold g38_l5B g38_j2
                  rw [hl]
                  rfl
            have L := l4 FUEL 0 (by omega) (by rw [List.length_append]; unfold FUEL; omega)
            rw [List.take_zero] at L
            exact ⟨_, rfl, L, hf⟩
          · rw [if_pos hm, if_pos hm]
            unfold g38_j2
            exact ⟨_, rfl, rfl, M0.fine⟩
        | false =>
          obtain ⟨v1, v2, v3, v4, v5⟩ := ma.inner hl
          obtain ⟨u1, u2, u3, u4, u5⟩ := mb.inner (by rw [← h3, hl])
          rw [if_pos (by simp), if_neg (by decide), isKey_ok, Key_ok]
          simp only [Option.bind_some]
          by_cases hkey : isKeyP key
          · have hf : Fine ⟨false, [], (a.Keys ++ [key]) ++ b.Keys, a.Kids ++ b.Kids⟩ := ⟨by show (0 : Nat) < _; omega, by show ((a.Keys ++ [key]) ++ b.Keys).length < _; simp; omega, by show (a.Kids ++ b.Kids).length < _; simp; omega⟩
            rw [if_neg (by simp [hkey]), if_neg (by simp [hkey]), appI_ok (xs := a.Pairs) (by omega), Option.bind_some, if_pos (by simp), own_ok _ (by omega), Option.bind_some, appI_ok (xs := a.Keys) (by simp; omega), Option.bind_some, appI_ok (by simp; omega), Option.bind_some, appI_ok (xs := a.Kids) (by omega), Option.bind_some, v2, u2, List.append_nil, may_ok hf, Option.bind_some]
            rw [appI_ok (xs := []) (ys := a.Keys) (by simp; omega), Option.bind_some, List.nil_append, appI_ok (xs := a.Keys) (by simp; omega), Option.bind_some, appI_ok (xs := a.Keys ++ [key]) (by simp; omega), Option.bind_some]
            unfold g38_j6 g38_j7
            rw [appI_ok (xs := []) (ys := a.Kids) (by simp; omega), Option.bind_some, List.nil_append, appI_ok (xs := a.Kids) (by omega), Option.bind_some, hl, refMay_ok hf, Option.bind_some]
            by_cases hm : mayB ⟨false, [], (a.Keys ++ [key]) ++ b.Keys, a.Kids ++ b.Kids⟩ = true
            · rw [if_neg (fun f => f hm), if_neg (fun f => f hm), appI_ok (xs := []) (ys := a.Kids ++ b.Kids) (by simp; omega), Option.bind_some, List.nil_append]
              have l9 : ∀ (fuel i : Nat), i ≤ ((a.Keys ++ [key]) ++ b.Keys).length → ((a.Keys ++ [key]) ++ b.Keys).length - i < fuel → g38_l9 a ((a.Keys ++ [key]) ++ b.Keys) (a.Kids ++ b.Kids) fuel (i : Int) (((a.Keys ++ [key]) ++ b.Keys).take i) = some (⟨false, [], (a.Keys ++ [key]) ++ b.Keys, a.Kids ++ b.Kids⟩, 0) := by
                intro fuel
                induction fuel with
                | zero => intro i _ h; omega
                | succ f ih =>
                  intro i hi hf
                  have hlen : ((a.Keys ++ [key]) ++ b.Keys).length ≤ 601 := by simp; omega
                  show g38_l9B a ((a.Keys ++ [key]) ++ b.Keys) (a.Kids ++ b.Kids) (g38_l9 a ((a.Keys ++ [key]) ++ b.Keys) (a.Kids ++ b.Kids) f) (i : Int) (((a.Keys ++ [key]) ++ b.Keys).take i) = _
                  unfold g38_l9B
                  by_cases h : i < ((a.Keys ++ [key]) ++ b.Keys).length
                  · have hp : ((a.Keys ++ [key]) ++ b.Keys)[i].length ≤ 300 := by
                      rcases List.mem_append.1 (List.getElem_mem h) with h | h
                      · rcases List.mem_append.1 h with h | h
                        · exact a5 _ h
                        · rw [List.mem_singleton.1 h]; exact hk
                      · exact b5 _ h
                    rw [if_pos (by omega), getI_nat, List.getElem?_eq_getElem h, Option.bind_some, rown_ok _ (by omega), Option.bind_some, appI_ok (by rw [List.length_take]; simp; omega), Option.bind_some, List.take_append_getElem h, i64_in _ (by omega), show (i : Int) + 1 = ((i + 1 : Nat) : Int) by omega]
                    exact ih (i + 1) (by omega) (by omega)
                  · rw [if_neg (by omega), List.take_of_length_le (by omega), hl]
              obtain ⟨g, hG⟩ : ∃ g, FUEL = g + 1 := ⟨FUEL - 1, by unfold FUEL; decide⟩
              have L := l9 FUEL 0 (by omega) (by unfold FUEL; simp; omega)
              rw [List.take_zero] at L
              refine ⟨_, rfl, ?_, hf⟩
              have e8 : ∀ g, g38_l8 a ((a.Keys ++ [key]) ++ b.Keys) (a.Kids ++ b.Kids) (g + 1) = g38_l9 a ((a.Keys ++ [key]) ++ b.Keys) (a.Kids ++ b.Kids) FUEL 0 [] := fun g => rfl
              have e9 : g38_l8 a ((a.Keys ++ [key]) ++ b.Keys) (a.Kids ++ b.Kids) FUEL = g38_l9 a ((a.Keys ++ [key]) ++ b.Keys) (a.Kids ++ b.Kids) FUEL 0 [] := by
                have := e8 g
                rw [← hG] at this
                exact this
              rw [e9]
              exact L
            · rw [if_pos hm, if_pos hm]
              exact ⟨_, rfl, rfl, M0.fine⟩
          · rw [if_pos (by simp [hkey]), if_pos (by simp [hkey])]
            exact ⟨_, rfl, rfl, M0.fine⟩
      · rw [decide_eq_true h3]
        exact bad
    · rw [if_pos (show ¬ (mayB b = true) from h2), if_pos (show ¬ (mayB b = true) from h2)]
      exact bad
  · rw [if_pos (show ¬ (mayB a = true) from h1), if_pos (show ¬ (mayB a = true) from h1)]
    exact bad
theorem Pure.NodeCuts (p0 p1 p2 : T_api_Node) (p3 : List Int) (h0 : okN p0) (h1 : okN p1) (h2 : okN p2) (h3 : okB p3) : g7 p0 p1 p2 p3 = some true := by
  have jt : g7_j1 p0 p1 p2 p3 true = some true := by
    unfold g7_j1
    rw [if_pos rfl, live_ok]; rfl
  unfold g7
  rw [live_ok, Option.bind_some, if_neg (by simp), few_ok _ (by simp), Option.bind_some]
  by_cases hw : ∀ n ∈ [p0, p1, p2], fewN n
  · rw [decide_eq_true hw, if_neg (by simp)]
    by_cases hl : (p3.length : Int) > 300
    · rw [decide_eq_true hl, jt]
    · obtain ⟨r, e1, e2, f1, f2⟩ := cut_same (hw p0 (by simp))
      obtain ⟨q, d1, d2, f3⟩ := join_same (hw p1 (by simp)) (hw p2 (by simp)) (key := p3) (by omega)
      have eq1 : ∀ l : List Int, g34 l l = some true := fun l => by unfold g34; simp
      rw [decide_eq_false hl]
      unfold g7_j1 g7_j2
      rw [if_neg (by decide), e1, e2, d1, d2]
      simp only [Option.bind_some, if_true, eq1, refSame_refl f1, refSame_refl f2, refSame_refl f3, decide_true]
  · rw [decide_eq_false hw, if_pos (by simp), jt]
end Go.Proofs.Ytefjbhogpgihaaa
