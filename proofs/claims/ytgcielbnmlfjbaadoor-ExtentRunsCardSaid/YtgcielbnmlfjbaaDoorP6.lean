/- Layer 7, plain laws, part 6: how many pages are in a set; two sets that are the same. -/
import Derived.Test.YtgcielbnmlfjbaaDoorP5
namespace Go.Proofs.YtgcielbnmlfjbaaDoor
open Go Go.SX

theorem cnt_count : ∀ (n x : Nat), cnt n x = (List.range n).countP fun j => x.testBit j
  | 0, _ => rfl
  | n + 1, x => by
    rw [List.range_succ_eq_map, List.countP_cons, List.countP_map, cnt, cnt_count n]
    have h1 : (fun j => (x / 2).testBit j) = (fun j => x.testBit j) ∘ Nat.succ := by
      funext j
      simp [Nat.testBit_succ]
    rw [h1]
    have h2 : x % 2 = if x.testBit 0 = true then 1 else 0 := by
      rw [Nat.testBit_zero]
      by_cases h : x % 2 = 1
      · simp [h]
      · simp [h]; omega
    rw [h2, Nat.add_comm]
/-- How many of the pages below p are in it. -/
def C (w : List Int) (p : Nat) : Nat := (List.range p).countP fun q => bitAt w q
theorem C_succ (w : List Int) (p : Nat) : C w (p + 1) = C w p + if bitAt w p = true then 1 else 0 := by
  unfold C
  rw [List.range_succ, List.countP_append]
  simp [List.countP_cons]
theorem C_le (w : List Int) (p : Nat) : C w p ≤ p := by
  unfold C
  have := List.countP_le_length (p := fun q => bitAt w q) (l := List.range p)
  simpa using this
theorem C_word {w : List Int} {i x : Nat} (h : w[i]? = some (x : Int)) : C w (64 * (i + 1)) = C w (64 * i) + cnt 64 x := by
  rw [cnt_count]
  have key : ∀ n, n ≤ 64 → C w (64 * i + n) = C w (64 * i) + (List.range n).countP fun j => x.testBit j := by
    intro n
    induction n with
    | zero => intro _; rfl
    | succ n ih =>
      intro hn
      rw [← Nat.add_assoc, C_succ, ih (by omega), List.range_succ, List.countP_append, bitAt_in h (by omega)]
      simp [List.countP_cons, Nat.add_assoc]
  have := key 64 (Nat.le_refl _)
  rw [← this]
  rfl
theorem C_more {w : List Int} {n : Nat} (h : ∀ p, n ≤ p → bitAt w p = false) : ∀ d, C w (n + d) = C w n
  | 0 => rfl
  | d + 1 => by rw [← Nat.add_assoc, C_succ, C_more h d, h _ (by omega)]; simp
theorem len_loop {s : T_extent_Set} (h : WF s) : ∀ (fuel i : Nat), i ≤ s.w.length → s.w.length < fuel + i → g14_l1 s fuel (C s.w (64 * i) : Int) i = some (C s.w (64 * s.w.length) : Int) := by
  intro fuel
  induction fuel with
  | zero => intro i h1 h2; omega
  | succ fuel ih =>
    intro i h1 h2
    have hlen := h.len
    have hhi := h.hi
    show g14_l1B s (g14_l1 s fuel) _ i = _
    unfold g14_l1B
    by_cases hi : i < s.w.length
    · rw [if_pos (by omega)]
      obtain ⟨x, hx, hlt⟩ := h.at hi
      rw [getI_of hx, Option.bind_some, ones_ok hlt, Option.bind_some]
      have e1 : IntKind.i64.wrap ((i : Int) + 1) = ((i + 1 : Nat) : Int) := by rw [i64_in _ (by omega)]; omega
      have hc := C_le s.w (64 * i)
      have hk := cnt_le 64 x
      have e2 : IntKind.i64.wrap ((C s.w (64 * i) : Int) + (cnt 64 x : Int)) = (C s.w (64 * (i + 1)) : Int) := by rw [i64_in _ (by omega), C_word hx]; omega
      rw [e1, e2]
      exact ih (i + 1) (by omega) (by omega)
    · rw [if_neg (by omega)]
      have : i = s.w.length := by omega
      rw [this]
/-- How many are in it. -/
def card (s : T_extent_Set) : Nat := C s.w s.n.toNat
theorem card_le {s : T_extent_Set} (h : WF s) : (card s : Int) ≤ s.n := by
  have := C_le s.w s.n.toNat
  have := h.lo
  unfold card; omega
theorem len_ok {s : T_extent_Set} (h : WF s) : g14 s = some (card s : Int) := by
  unfold g14
  rw [none_ok h, Option.bind_some, if_neg (by decide)]
  have hlen := h.len
  have hhi := h.hi
  have hlo := h.lo
  have := len_loop h FUEL 0 (by omega) (by unfold FUEL; omega)
  have e0 : C s.w (64 * 0) = 0 := rfl
  rw [e0] at this
  show g14_l1 s FUEL ((0 : Nat) : Int) ((0 : Nat) : Int) = _
  rw [this]
  congr 2
  unfold card
  have e := C_more (w := s.w) (n := s.n.toNat) (fun p hp => h.top p (by omega)) (64 * s.w.length - s.n.toNat)
  rw [← e]
  congr 1
  omega
theorem not_card {s u : T_extent_Set} (h : WF s) (hn : u.n = s.n) (hb : ∀ p : Nat, (p : Int) < s.n → bitAt u.w p = !bitAt s.w p) : (card u : Int) + card s = s.n := by
  have hlo := h.lo
  have key : ∀ p : Nat, (p : Int) ≤ s.n → C u.w p + C s.w p = p := by
    intro p
    induction p with
    | zero => intro _; rfl
    | succ p ih =>
      intro hp
      have := ih (by omega)
      rw [C_succ, C_succ, hb p (by omega)]
      cases bitAt s.w p <;> simp <;> omega
  have := key s.n.toNat (by omega)
  unfold card
  rw [hn]
  omega
/-- Sets with the same pages are the same. -/
theorem WF.ext {s t : T_extent_Set} (hs : WF s) (ht : WF t) (hn : s.n = t.n) (hb : ∀ p : Nat, (p : Int) < s.n → bitAt s.w p = bitAt t.w p) : s.w = t.w := by
  have l1 := hs.len
  have l2 := ht.len
  apply List.ext_getElem?
  intro i
  by_cases hi : i < s.w.length
  · obtain ⟨x, x1, x2⟩ := hs.at hi
    obtain ⟨y, y1, y2⟩ := ht.at (i := i) (by omega)
    rw [x1, y1]
    congr 2
    apply Nat.eq_of_testBit_eq
    intro j
    by_cases hj : j < 64
    · rw [← bitAt_in x1 hj, ← bitAt_in y1 hj]
      by_cases hp : ((64 * i + j : Nat) : Int) < s.n
      · exact hb _ hp
      · rw [hs.top _ (by omega), ht.top _ (by omega)]
    · have a : x.testBit j = false := Nat.testBit_lt_two_pow (Nat.lt_of_lt_of_le (show x < 2 ^ 64 by omega) (Nat.pow_le_pow_right (by decide) (by omega)))
      have b : y.testBit j = false := Nat.testBit_lt_two_pow (Nat.lt_of_lt_of_le (show y < 2 ^ 64 by omega) (Nat.pow_le_pow_right (by decide) (by omega)))
      rw [a, b]
  · rw [List.getElem?_eq_none (by omega), List.getElem?_eq_none (by omega)]
theorem eq_loop {a b : List Int} (hl : a.length = b.length) (hb : a.length ≤ 1000) : ∀ (fuel i : Nat), i ≤ a.length → a.length < fuel + i → a.take i = b.take i → g36_l1 a b fuel i = some (decide (a = b)) := by
  intro fuel
  induction fuel with
  | zero => intro i h1 h2; omega
  | succ fuel ih =>
    intro i h1 h2 hpre
    show g36_l1B a b (g36_l1 a b fuel) i = _
    unfold g36_l1B
    by_cases hi : i < a.length
    · rw [if_pos (by omega)]
      have x1 : a[i]? = some a[i] := by simp [hi]
      have y1 : b[i]? = some (b[i]'(by omega)) := by simp [show i < b.length by omega]
      rw [getI_of x1, Option.bind_some, getI_of y1, Option.bind_some]
      by_cases he : a[i] = b[i]'(by omega)
      · rw [if_neg (by simpa using he)]
        have e1 : IntKind.i64.wrap ((i : Int) + 1) = ((i + 1 : Nat) : Int) := by rw [i64_in _ (by omega)]; omega
        rw [e1]
        refine ih (i + 1) (by omega) (by omega) ?_
        rw [List.take_add_one, List.take_add_one, hpre, x1, y1, he]
      · rw [if_pos he]
        congr 1
        symm
        rw [decide_eq_false_iff_not]
        rintro rfl
        exact he rfl
    · rw [if_neg (by omega)]
      congr 1
      symm
      rw [decide_eq_true_eq]
      rw [List.take_of_length_le (by omega), List.take_of_length_le (by omega)] at hpre
      exact hpre
theorem equal_ok {a b : List Int} (hb : a.length ≤ 1000) : g36 a b = some (decide (a = b)) := by
  unfold g36
  by_cases hl : (a.length : Int) = b.length
  · rw [if_neg (by simpa using hl)]
    exact eq_loop (by omega) hb FUEL 0 (by omega) (by unfold FUEL; omega) rfl
  · rw [if_pos hl]
    congr 1
    symm
    rw [decide_eq_false_iff_not]
    rintro rfl
    exact hl rfl
/-- What same tells. -/
theorem same_ok {s t : T_extent_Set} (hs : WF s) (ht : WF t) : g18 s t = some (decide (s.n = t.n ∧ s.w = t.w)) := by
  unfold g18
  rw [none_ok hs, Option.bind_some, if_neg (by decide), none_ok ht, Option.bind_some]
  unfold g18_j1
  rw [if_neg (by decide)]
  have l1 := hs.len
  have l2 := hs.hi
  by_cases hn : s.n = t.n
  · rw [if_pos hn, equal_ok (by omega), Option.bind_some]
    congr 1
    rw [decide_eq_decide]
    exact ⟨fun h => ⟨hn, h⟩, fun h => h.2⟩
  · rw [if_neg hn]
    congr 1
    symm
    rw [decide_eq_false_iff_not]
    exact fun h => hn h.1
theorem same_in {s t : T_extent_Set} (hs : WF s) (ht : WF t) (hn : s.n = t.n) : (s.n = t.n ∧ s.w = t.w) ↔ ∀ p : Int, 0 ≤ p → p < s.n → (In s p ↔ In t p) := by
  constructor
  · rintro ⟨_, hw⟩ p _ _
    unfold In
    rw [hw, hn]
  · intro h
    refine ⟨hn, WF.ext hs ht hn fun p hp => ?_⟩
    have := h p (by omega) hp
    unfold In at this
    rw [show ((p : Int).toNat) = p by omega] at this
    cases ha : bitAt s.w p <;> cases hb : bitAt t.w p <;> simp [ha, hb, hp, ← hn] at this ⊢
end Go.Proofs.YtgcielbnmlfjbaaDoor
