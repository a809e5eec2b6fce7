/- Sets of pages, plain laws, part 2: the first page from one on. -/
import Derived.Test.YtofhmhbffdoiaaaDoorSA
namespace Go.Proofs.YtofhmhbffdoiaaaDoor
open Go Go.SX Go.VX
set_option maxRecDepth 100000
set_option linter.unusedVariables false
set_option linter.unusedSimpArgs false

def Mk (k : Nat) : Nat := 18446744073709551616 - 2 ^ k
theorem two_le {k : Nat} (h : k < 64) : 2 ^ k ≤ 9223372036854775808 := by
  have : (2 : Nat) ^ k ≤ 2 ^ 63 := Nat.pow_le_pow_right (by decide) (by omega)
  exact this
theorem Mk_lt {k : Nat} : Mk k < 18446744073709551616 := by
  have := Nat.two_pow_pos k
  unfold Mk; omega
theorem Mk_bit {k j : Nat} (hk : k < 64) : (Mk k).testBit j = decide (k ≤ j ∧ j < 64) := by
  have e : Mk k = 2 ^ k * (2 ^ (64 - k) - 1) := by
    unfold Mk
    rw [Nat.mul_sub, Nat.mul_one, ← Nat.pow_add, show k + (64 - k) = 64 by omega]
  rw [e, Nat.testBit_two_pow_mul, Nat.testBit_two_pow_sub_one]
  by_cases h1 : k ≤ j
  · by_cases h2 : j < 64
    · simp [h1, h2]; omega
    · simp [h1, h2]; omega
  · simp [h1]
theorem shl_ones {k : Nat} (hk : k < 64) : shlI .u64 18446744073709551615 (k : Int) = (Mk k : Int) := by
  unfold shlI
  have h1 : min (k : Int).toNat IntKind.u64.bits = k := by show min (k : Int).toNat 64 = k; omega
  rw [h1]
  have h2 : ((2 : Int) ^ k) = ((2 ^ k : Nat) : Int) := by simp
  rw [h2]
  unfold Mk
  have := two_le hk
  have hp := Nat.two_pow_pos k
  generalize 2 ^ k = m at *
  rw [Go.IntKind.wrap]
  simp [IntKind.signed, IntKind.bits]
  omega
theorem bitAt_out {w : List Int} {p : Nat} (h : w.length ≤ p / 64) : bitAt w p = false := by
  unfold bitAt
  rw [List.getD_eq_getElem?_getD, List.getElem?_eq_none h]
  simp
theorem bitAt_in {w : List Int} {i j x : Nat} (h : w[i]? = some (x : Int)) (hj : j < 64) : bitAt w (64 * i + j) = x.testBit j := by
  unfold bitAt
  rw [show (64 * i + j) / 64 = i by omega, show (64 * i + j) % 64 = j by omega, List.getD_eq_getElem?_getD, h]
  rfl
theorem WF.at {s : Xs} (h : WF s) {i : Nat} (hi : i < s.w.length) : ∃ x : Nat, s.w[i]? = some (x : Int) ∧ x < 18446744073709551616 := by
  have hx := h.wd s.w[i] (List.getElem_mem hi)
  obtain ⟨a, b⟩ := hx
  exact ⟨s.w[i].toNat, by rw [List.getElem?_eq_getElem hi]; congr 1; omega, by omega⟩
theorem first_loop {s : Xs} (h : WF s) : ∀ (fuel i k : Nat), k < 64 → i ≤ s.w.length → s.w.length < fuel + i → ∃ r : Int, s71_l1 fuel (Mk k) i s.n s.w = some (r, ((s.n, ()), s.w)) ∧
    ((r = -1 ∧ ∀ q : Nat, 64 * i + k ≤ q → bitAt s.w q = false) ∨ (∃ q : Nat, r = q ∧ 64 * i + k ≤ q ∧ bitAt s.w q = true ∧ ∀ q', 64 * i + k ≤ q' → q' < q → bitAt s.w q' = false)) := by
  intro fuel
  induction fuel with
  | zero =>
    intro i k hk hle hf
    omega
  | succ fuel ih =>
    intro i k hk hle hf
    have hlen := h.len
    have hhi := h.hi
    show ∃ r : Int, s71_l1B (s71_l1 fuel) (Mk k) i s.n s.w = some (r, ((s.n, ()), s.w)) ∧ _
    unfold s71_l1B
    by_cases hi : i < s.w.length
    · rw [if_pos (by omega), if_pos ⟨by omega, by omega⟩]
      obtain ⟨x, hx, hlt⟩ := h.at hi
      rw [getI_of hx, Option.bind_some, andI_u64 hlt Mk_lt]
      by_cases hy : x &&& Mk k = 0
      · rw [if_neg (by rw [hy]; decide)]
        have e1 : IntKind.i64.wrap ((i : Int) + 1) = ((i + 1 : Nat) : Int) := by rw [i64_in _ (by omega)]; omega
        have e2 : (18446744073709551615 : Int) = (Mk 0 : Int) := rfl
        rw [e1, e2]
        obtain ⟨r, hr, hs⟩ := ih (i + 1) 0 (by omega) (by omega) (by omega)
        refine ⟨r, hr, ?_⟩
        have hno : ∀ q : Nat, 64 * i + k ≤ q → q < 64 * (i + 1) → bitAt s.w q = false := by
          intro q h1 h2
          obtain ⟨j, rfl⟩ : ∃ j, q = 64 * i + j := ⟨q - 64 * i, by omega⟩
          rw [bitAt_in hx (by omega)]
          have h0 : (x &&& Mk k).testBit j = false := by rw [hy]; simp
          rw [Nat.testBit_and, Mk_bit hk, decide_eq_true (by omega)] at h0
          simpa using h0
        rcases hs with ⟨h1, h2⟩ | ⟨q, h1, h2, h3, h4⟩
        · refine .inl ⟨h1, fun q hq => ?_⟩
          by_cases hq2 : q < 64 * (i + 1)
          · exact hno q hq hq2
          · exact h2 q (by omega)
        · refine .inr ⟨q, h1, by omega, h3, fun q' hq1 hq2 => ?_⟩
          by_cases hq3 : q' < 64 * (i + 1)
          · exact hno q' hq1 hq3
          · exact h4 q' (by omega) hq2
      · rw [if_pos (by omega)]
        obtain ⟨j, hj1, hj2⟩ := low_bit hy
        have hz : x &&& Mk k < 18446744073709551616 := Nat.lt_of_le_of_lt Nat.and_le_left hlt
        rw [zeros_ok hz hj1 hj2, Option.bind_some]
        rw [Nat.testBit_and, Mk_bit hk] at hj1
        simp only [Bool.and_eq_true, decide_eq_true_eq] at hj1
        refine ⟨_, rfl, .inr ⟨64 * i + j, ?_, by omega, ?_, fun q' h1 h2 => ?_⟩⟩
        · rw [i64_in ((i : Int) * 64) (by omega), i64_in _ (by omega)]; omega
        · rw [bitAt_in hx hj1.2.2]; exact hj1.1
        · obtain ⟨j', rfl⟩ : ∃ j', q' = 64 * i + j' := ⟨q' - 64 * i, by omega⟩
          rw [bitAt_in hx (by omega)]
          have h0 := hj2 j' (by omega)
          rw [Nat.testBit_and, Mk_bit hk, decide_eq_true (by omega)] at h0
          simpa using h0
    · rw [if_neg (by omega)]
      exact ⟨-1, rfl, .inl ⟨rfl, fun q hq => bitAt_out (by omega)⟩⟩
/-- What first tells. -/
def First (s : Xs) (p r : Int) : Prop := (r = -1 ∧ ∀ q : Int, p ≤ q → ¬ In s q) ∨ (In s r ∧ p ≤ r ∧ ∀ q : Int, p ≤ q → q < r → ¬ In s q)
theorem first_ok {s : Xs} (h : WF s) (p : Int) (hp : p ≤ 9223372036854775807) : ∃ r, s71 p s.n s.w = some (r, ((s.n, ()), s.w)) ∧ First s p r := by
  unfold s71 s71F
  rw [none_ok h]
  simp only [Option.bind_some, if_true]
  unfold s71_j1 s71_j1F
  by_cases h1 : p ≥ s.n
  · rw [decide_eq_true h1, if_pos rfl]
    exact ⟨-1, rfl, .inl ⟨rfl, fun q hq hin => by have := hin.2.1; omega⟩⟩
  · rw [decide_eq_false h1, if_neg (by decide)]
    obtain ⟨n, hn, hn2⟩ : ∃ n : Nat, (if 0 > p then 0 else p) = (n : Int) ∧ ∀ q : Int, (p ≤ q ∧ 0 ≤ q) ↔ ((n : Int) ≤ q) := by
      by_cases h0 : 0 > p
      · rw [if_pos h0]; exact ⟨0, rfl, fun q => by omega⟩
      · rw [if_neg h0]; exact ⟨p.toNat, by omega, fun q => by omega⟩
    have hb : (n : Int) ≤ 9223372036854775807 := by
      by_cases h0 : 0 > p
      · rw [if_pos h0] at hn; omega
      · rw [if_neg h0] at hn; omega
    rw [hn, mod_ok (by omega), div_ok (by omega), if_pos (by decide), if_pos (by omega), if_pos (by decide), shl_ones (by omega)]
    have hlen := h.len
    have hhi := h.hi
    obtain ⟨r, hr, hs⟩ := first_loop h FUEL (n / 64) (n % 64) (by omega) (by omega) (by unfold FUEL; omega)
    refine ⟨r, hr, ?_⟩
    have e : 64 * (n / 64) + n % 64 = n := by omega
    rw [e] at hs
    rcases hs with ⟨h2, h3⟩ | ⟨q, h2, h3, h4, h5⟩
    · refine .inl ⟨h2, fun q hq hin => ?_⟩
      have := h3 q.toNat (by have := (hn2 q).1 ⟨hq, hin.1⟩; omega)
      rw [hin.2.2] at this
      cases this
    · subst h2
      have hlt : (q : Int) < s.n := by
        by_cases hlt : (q : Int) < s.n
        · exact hlt
        · have := h.top q (by omega)
          rw [this] at h4; cases h4
      refine .inr ⟨⟨by omega, hlt, by simpa using h4⟩, ((hn2 q).2 (by omega)).1, fun q' hq1 hq2 hin => ?_⟩
      have := h5 q'.toNat (by have := (hn2 q').1 ⟨hq1, hin.1⟩; omega) (by have := hin.1; omega)
      rw [hin.2.2] at this
      cases this
end Go.Proofs.YtofhmhbffdoiaaaDoor
