/- Plain laws of node for the print of VX, part 4: both halves may be; where a node is cut. -/
import Derived.Test.YtefjbhogpgihaaaHC
namespace Go.Proofs.Ytefjbhogpgihaaa
open Go Go.SX Go.VX
set_option maxRecDepth 100000
set_option linter.unusedVariables false
set_option linter.unusedSimpArgs false
theorem rise_left : ∀ (l : Option (List Int)) (xs ys : List (List Int)), rise l (xs ++ ys) → rise l xs
  | _, [], _, _ => trivial
  | l, x :: xs, ys, h => ⟨h.1, h.2.1, rise_left (some x) xs ys h.2.2⟩
theorem rise_weak : ∀ (l : Option (List Int)) (xs : List (List Int)), rise l xs → rise none xs
  | _, [], _ => trivial
  | l, x :: xs, h => ⟨h.1, fun _ e => (by cases e), h.2.2⟩
theorem rise_right : ∀ (l : Option (List Int)) (xs ys : List (List Int)), rise l (xs ++ ys) → rise none ys
  | l, [], ys, h => rise_weak l ys h
  | l, x :: xs, ys, h => rise_right (some x) xs ys h.2.2
theorem halfA_may {n : T_api_Node} (m : MayP n) {i : Nat} (h1 : 1 ≤ i) (h2 : i < lastN n) : MayP (halfA n i) := by
  unfold halfA
  unfold lastN at h2
  cases hl : n.Leaf with
  | true =>
    rw [hl] at h2
    simp only [if_true] at h2 ⊢
    obtain ⟨m1, m2, m3, m4⟩ := m.leaf hl
    have k := m.keys
    rw [m3, List.append_nil, ← List.take_append_drop i n.Pairs, List.map_append] at k
    refine ⟨?_, fun _ => ⟨fun p hp => m1 p (List.mem_of_mem_take hp), by simp; omega, rfl, rfl⟩, fun h => (by cases h)⟩
    show rise none ((n.Pairs.take i).map (·.Key) ++ [])
    rw [List.append_nil]
    exact rise_left _ _ _ k
  | false =>
    rw [hl] at h2
    simp only [Bool.false_eq_true, if_false] at h2 ⊢
    obtain ⟨m1, m2, m3, m4, m5⟩ := m.inner hl
    have k := m.keys
    rw [m2, ← List.take_append_drop i n.Keys] at k
    refine ⟨?_, fun h => (by cases h), fun _ => ⟨fun p hp => m1 p (List.mem_of_mem_take hp), rfl, by simp; omega, by simp; omega, by simp; omega⟩⟩
    exact rise_left _ _ _ k
theorem halfB_may {n : T_api_Node} (m : MayP n) {i : Nat} (h1 : 1 ≤ i) (h2 : i < lastN n) : MayP (halfB n i) := by
  unfold halfB
  unfold lastN at h2
  cases hl : n.Leaf with
  | true =>
    rw [hl] at h2
    simp only [if_true] at h2 ⊢
    obtain ⟨m1, m2, m3, m4⟩ := m.leaf hl
    have k := m.keys
    rw [m3, List.append_nil, ← List.take_append_drop i n.Pairs, List.map_append] at k
    refine ⟨?_, fun _ => ⟨fun p hp => m1 p (List.mem_of_mem_drop hp), by simp; omega, rfl, rfl⟩, fun h => (by cases h)⟩
    show rise none ((n.Pairs.drop i).map (·.Key) ++ [])
    rw [List.append_nil]
    exact rise_right _ _ _ k
  | false =>
    rw [hl] at h2
    simp only [Bool.false_eq_true, if_false] at h2 ⊢
    obtain ⟨m1, m2, m3, m4, m5⟩ := m.inner hl
    have k := m.keys
    rw [m2, ← List.take_append_drop (i + 1) n.Keys] at k
    refine ⟨?_, fun h => (by cases h), fun _ => ⟨fun p hp => m1 p (List.mem_of_mem_drop hp), rfl, by simp; omega, by simp; omega, by simp; omega⟩⟩
    exact rise_right _ _ _ k
theorem midK_len {n : T_api_Node} (m : MayP n) (i : Nat) : (midK n i).length ≤ 300 := by
  obtain ⟨w1, w2, w3, w4, w5⟩ := m.few
  unfold midK
  split
  · cases h : n.Pairs[i]? with
    | none => simp
    | some p => exact (w4 p (List.mem_of_getElem? h)).1
  · cases h : n.Keys[i]? with
    | none => simp
    | some k => exact w5 k (List.mem_of_getElem? h)
/-- How far apart the sizes of both halves are. -/
def dst (n : T_api_Node) (i : Nat) : Int := if (sizeN (halfB n i) : Int) - sizeN (halfA n i) > (sizeN (halfA n i) : Int) - sizeN (halfB n i) then (sizeN (halfB n i) : Int) - sizeN (halfA n i) else (sizeN (halfA n i) : Int) - sizeN (halfB n i)
abbrev CutT := ((Nd × (Int × Int) × Nd × Int) × List Int)
def n0 : Nd := (false, [], [], [])
/-- What Cut tells. -/
def cutV (n : T_api_Node) (a : Nat) : CutT := if a = 0 then ((n0, (0, 0), n0, 4), []) else ((nd (halfA n a), (0, ((midK n a).length : Int)), nd (halfB n a), 0), midK n a)
theorem cut_loop {n : T_api_Node} (m : MayP n) : ∀ (fuel i at_ : Nat) (best : Int), 1 ≤ i → (i ≤ lastN n ∨ i = 1) → lastN n + 1 - i < fuel → (at_ = 0 ∧ i = 1 ∨ 1 ≤ at_ ∧ at_ < i ∧ at_ < lastN n ∧ best = dst n at_ ∧ ∀ j, 1 ≤ j → j < i → best ≤ dst n j) →
    ∃ a, s35_l1 fuel (lastN n : Int) best (at_ : Int) (i : Int) n.Leaf n.Pairs n.Keys n.Kids false false = some (cutV n a) ∧ (lastN n ≤ 1 → a = 0) ∧ (1 < lastN n → 1 ≤ a ∧ a < lastN n ∧ ∀ j, 1 ≤ j → j < lastN n → dst n a ≤ dst n j) := by
  have hw := m.few
  have hlast : lastN n ≤ 300 := by
    obtain ⟨w1, w2, w3, w4, w5⟩ := hw
    unfold lastN; split <;> omega
  intro fuel
  induction fuel with
  | zero => intro i at_ best _ _ h; omega
  | succ f ih =>
    intro i at_ best h1 hi hf hinv
    show ∃ a, s35_l1B (s35_j2 (s35_l1 f)) (lastN n : Int) best (at_ : Int) (i : Int) n.Leaf n.Pairs n.Keys n.Kids false false = some (cutV n a) ∧ _
    unfold s35_l1B
    by_cases h : i < lastN n
    · have mA := halfA_may m h1 h
      have mB := halfB_may m h1 h
      have sA := sizeN_le mA
      have sB := sizeN_le mB
      have ap : s76 ((sizeN (halfA n i) : Nat) : Int) ((sizeN (halfB n i) : Nat) : Int) = some (dst n i) := by
        unfold s76 s76F dst
        rw [i64_in ((sizeN (halfB n i) : Int) - sizeN (halfA n i)) (by omega), i64_in ((sizeN (halfA n i) : Int) - sizeN (halfB n i)) (by omega)]
      rw [if_pos (by omega), show s75 (⟨n.Leaf, n.Pairs, n.Keys, n.Kids⟩ : T_api_Node) (i : Int) = _ from halves_ok m h1 h]
      simp only [Option.bind_some]
      have eA : s52 (⟨(nd (halfA n i)).1, (nd (halfA n i)).2.1, (nd (halfA n i)).2.2.1, (nd (halfA n i)).2.2.2⟩ : T_api_Node) = some ((sizeN (halfA n i) : Nat) : Int) := size_ok mA
      have eB : s52 (⟨(nd (halfB n i)).1, (nd (halfB n i)).2.1, (nd (halfB n i)).2.2.1, (nd (halfB n i)).2.2.2⟩ : T_api_Node) = some ((sizeN (halfB n i) : Nat) : Int) := size_ok mB
      rw [eA, Option.bind_some, eB, Option.bind_some, ap, Option.bind_some]
      have nxt : (i : Int) + 1 = ((i + 1 : Nat) : Int) := by omega
      by_cases h0 : (at_ : Int) = 0
      · rw [if_pos h0]
        show ∃ a, s35_l1 f (lastN n : Int) (dst n i) (i : Int) (IntKind.i64.wrap ((i : Int) + 1)) n.Leaf n.Pairs n.Keys n.Kids false false = _ ∧ _
        rw [nxt, i64_nat (by omega)]
        refine ih (i + 1) i (dst n i) (by omega) (Or.inl (by omega)) (by omega) (Or.inr ⟨h1, by omega, h, rfl, fun j j1 j2 => ?_⟩)
        rcases hinv with ⟨_, e⟩ | ⟨e, _⟩
        · have : j = i := by omega
          rw [this]; exact Int.le_refl _
        · omega
      · rw [if_neg h0]
        rcases hinv with ⟨e, _⟩ | ⟨e1, e2, e3, e4, e5⟩
        · omega
        · by_cases hd : dst n i < best
          · rw [decide_eq_true hd]
            show ∃ a, s35_l1 f (lastN n : Int) (dst n i) (i : Int) (IntKind.i64.wrap ((i : Int) + 1)) n.Leaf n.Pairs n.Keys n.Kids false false = _ ∧ _
            rw [nxt, i64_nat (by omega)]
            refine ih (i + 1) i (dst n i) (by omega) (Or.inl (by omega)) (by omega) (Or.inr ⟨h1, by omega, h, rfl, fun j j1 j2 => ?_⟩)
            by_cases hj : j = i
            · rw [hj]; exact Int.le_refl _
            · have := e5 j j1 (by omega); omega
          · rw [decide_eq_false hd]
            show ∃ a, s35_l1 f (lastN n : Int) best (at_ : Int) (IntKind.i64.wrap ((i : Int) + 1)) n.Leaf n.Pairs n.Keys n.Kids false false = _ ∧ _
            rw [nxt, i64_nat (by omega)]
            refine ih (i + 1) at_ best (by omega) (Or.inl (by omega)) (by omega) (Or.inr ⟨e1, by omega, e3, e4, fun j j1 j2 => ?_⟩)
            by_cases hj : j = i
            · rw [hj]; omega
            · exact e5 j j1 (by omega)
    · rw [if_neg (by omega)]
      by_cases h0 : at_ = 0
      · rw [if_pos (by omega)]
        refine ⟨0, rfl, fun _ => rfl, fun hh => ?_⟩
        rcases hinv with ⟨_, e⟩ | ⟨e, _⟩ <;> omega
      · rw [if_neg (by omega)]
        rcases hinv with ⟨e, _⟩ | ⟨e1, e2, e3, e4, e5⟩
        · omega
        · refine ⟨at_, ?_, fun hh => (by omega), fun hh => ⟨e1, e3, fun j j1 j2 => by rw [← e4]; exact e5 j j1 (by omega)⟩⟩
          rw [show s25 (⟨n.Leaf, n.Pairs, n.Keys, n.Kids⟩ : T_api_Node) = _ from Clone_ok hw]
          simp only [Option.bind_some]
          rw [show s75 (⟨n.Leaf, n.Pairs, n.Keys, n.Kids⟩ : T_api_Node) (at_ : Int) = _ from halves_ok m e1 e3]
          simp only [Option.bind_some]
          rw [own_ok _ (by have := midK_len m at_; omega)]
          simp only [Option.bind_some]
          unfold cutV
          rw [if_neg h0]
theorem cut_ok {n : T_api_Node} (m : MayP n) : ∃ a, s35 n = some (cutV n a) ∧ (lastN n ≤ 1 → a = 0) ∧ (1 < lastN n → 1 ≤ a ∧ a < lastN n ∧ ∀ j, 1 ≤ j → j < lastN n → dst n a ≤ dst n j) := by
  have hw := m.few
  obtain ⟨a, h1, h2⟩ := cut_loop m FUEL 1 0 0 (by omega) (Or.inr rfl) (by
    have : lastN n ≤ 300 := by
      obtain ⟨w1, w2, w3, w4, w5⟩ := hw
      unfold lastN; split <;> omega
    unfold FUEL; omega) (Or.inl ⟨rfl, rfl⟩)
  refine ⟨a, ?_, h2⟩
  rw [← h1]
  unfold s35 s35F
  rw [may_ok hw.fine, (mayB_iff n).2 m, Option.bind_some, if_neg (by simp)]
  unfold s66 s66F
  obtain ⟨w1, w2, w3, w4, w5⟩ := hw
  rw [i64_in _ (by omega), Option.bind_some]
  cases hl : n.Leaf with
  | true =>
    rw [if_neg (by simp)]
    have e : (n.Pairs.length : Int) + (n.Keys.length : Int) = (lastN n : Int) := by
      unfold lastN; rw [hl, if_pos rfl, (m.leaf hl).2.2.1]; simp
    rw [e]; rfl
  | false =>
    rw [if_pos (by simp)]
    have e : (n.Pairs.length : Int) + (n.Keys.length : Int) - 1 = (lastN n : Int) := by
      have := (m.inner hl).2.2.1
      unfold lastN; rw [hl, if_neg (by decide), (m.inner hl).2.1]; simp; omega
    rw [e, i64_in _ (by omega)]; rfl
end Go.Proofs.Ytefjbhogpgihaaa
