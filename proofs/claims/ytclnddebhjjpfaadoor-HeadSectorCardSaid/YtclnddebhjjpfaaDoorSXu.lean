/- SX, part u: plain words: numbers of 64 bits. -/
import Derived.Test.YtclnddebhjjpfaaDoorSXt
import Derived.IntWalk
namespace Go.SX
open Go Go.RowKit

theorem getI_of {τ : Type} {xs : List τ} {i : Nat} {x : τ} (h : xs[i]? = some x) : getI xs (i : Int) = some x := by
  unfold getI
  rw [if_pos (by omega)]
  simpa using h
theorem getI_get {τ : Type} {xs : List τ} {i : Int} (h0 : 0 ≤ i) (h1 : i < (xs.length : Int)) : ∃ x, xs[i.toNat]? = some x ∧ getI xs i = some x := by
  have hlt : i.toNat < xs.length := by omega
  exact ⟨xs[i.toNat], by simp [hlt], by unfold getI; rw [if_pos h0]; simp [hlt]⟩
theorem setI_of {τ : Type} {xs : List τ} {i : Int} {x : τ} (h0 : 0 ≤ i) (h1 : i < (xs.length : Int)) : setI xs i x = some (xs.set i.toNat x) := by
  unfold setI; rw [if_pos ⟨h0, h1⟩]
theorem wf_i64 {n : Int} (h : (Lit.int .i64 n).wf = true) : -9223372036854775808 ≤ n ∧ n ≤ 9223372036854775807 := by
  simp [Lit.wf, IntKind.min, IntKind.max, IntKind.signed, IntKind.bits] at h
  omega
theorem wf_u8 {n : Int} (h : (Lit.int .u8 n).wf = true) : 0 ≤ n ∧ n ≤ 255 := by
  simp [Lit.wf, IntKind.min, IntKind.max, IntKind.signed, IntKind.bits] at h
  omega
abbrev i64_in := Go.IntWalk.i64_in
abbrev u64_in := Go.IntWalk.u64_in
theorem ofInt_nat {k a : Nat} : BitVec.ofInt k (a : Int) = BitVec.ofNat k a := by simp
theorem andI_u64 {a b : Nat} (ha : a < 18446744073709551616) (hb : b < 18446744073709551616) : andI .u64 (a : Int) (b : Int) = ((a &&& b : Nat) : Int) := by
  unfold andI
  have h1 : (BitVec.ofInt IntKind.u64.bits (a : Int) &&& BitVec.ofInt IntKind.u64.bits (b : Int)).toNat = a &&& b := by
    rw [ofInt_nat, ofInt_nat, BitVec.toNat_and, BitVec.toNat_ofNat, BitVec.toNat_ofNat]
    rw [Nat.mod_eq_of_lt (by exact ha), Nat.mod_eq_of_lt (by exact hb)]
  rw [h1]
  refine u64_in _ ⟨by omega, ?_⟩
  have := Nat.and_le_left (n := a) (m := b)
  omega
theorem orI_u64 {a b : Nat} (ha : a < 18446744073709551616) (hb : b < 18446744073709551616) : orI .u64 (a : Int) (b : Int) = ((a ||| b : Nat) : Int) := by
  unfold orI
  have h1 : (BitVec.ofInt IntKind.u64.bits (a : Int) ||| BitVec.ofInt IntKind.u64.bits (b : Int)).toNat = a ||| b := by
    rw [ofInt_nat, ofInt_nat, BitVec.toNat_or, BitVec.toNat_ofNat, BitVec.toNat_ofNat]
    rw [Nat.mod_eq_of_lt (by exact ha), Nat.mod_eq_of_lt (by exact hb)]
  rw [h1]
  refine u64_in _ ⟨by omega, ?_⟩
  have := Nat.or_lt_two_pow (n := 64) (x := a) (y := b) (by omega) (by omega)
  omega
theorem cplI_u64 {a : Nat} (ha : a < 18446744073709551616) : cplI .u64 (a : Int) = ((18446744073709551615 - a : Nat) : Int) := by
  unfold cplI
  have hm : (if IntKind.u64.signed then (-1 : Int) else IntKind.u64.max) = ((18446744073709551615 : Nat) : Int) := by rfl
  rw [hm]
  have h1 : (BitVec.ofInt IntKind.u64.bits ((18446744073709551615 : Nat) : Int) ^^^ BitVec.ofInt IntKind.u64.bits (a : Int)).toNat = 18446744073709551615 - a := by
    rw [ofInt_nat, ofInt_nat, BitVec.toNat_xor, BitVec.toNat_ofNat, BitVec.toNat_ofNat]
    rw [Nat.mod_eq_of_lt (by decide), Nat.mod_eq_of_lt (by exact ha)]
    apply Nat.eq_of_testBit_eq
    intro i
    have e1 : (18446744073709551615 : Nat) = 2 ^ 64 - 1 := by decide
    have e2 : 18446744073709551615 - a = 2 ^ 64 - (a + 1) := by omega
    rw [e2, Nat.testBit_two_pow_sub_succ (by omega), Nat.testBit_xor, e1, Nat.testBit_two_pow_sub_one]
    by_cases hi : i < 64
    · simp [hi]
    · have : a.testBit i = false := Nat.testBit_lt_two_pow (Nat.lt_of_lt_of_le (show a < 2 ^ 64 by omega) (Nat.pow_le_pow_right (by decide) (by omega)))
      simp [hi, this]
  rw [h1]
  exact u64_in _ (by omega)
theorem shlI_one {k : Nat} (hk : k < 64) : shlI .u64 1 (k : Int) = ((2 ^ k : Nat) : Int) := by
  unfold shlI
  have h1 : min (k : Int).toNat IntKind.u64.bits = k := by show min (k : Int).toNat 64 = k; omega
  rw [h1, Int.one_mul]
  have : (2 : Nat) ^ k ≤ 2 ^ 63 := Nat.pow_le_pow_right (by decide) (by omega)
  have h2 : ((2 : Int) ^ k) = ((2 ^ k : Nat) : Int) := by simp
  rw [h2]
  exact u64_in _ ⟨Int.natCast_nonneg _, by have h3 : ((2 ^ k : Nat) : Int) ≤ ((2 ^ 63 : Nat) : Int) := Int.ofNat_le.2 this; exact Int.le_trans h3 (by decide)⟩
theorem and_pow (x k : Nat) : x &&& 2 ^ k = if x.testBit k then 2 ^ k else 0 := by
  apply Nat.eq_of_testBit_eq
  intro i
  rw [Nat.testBit_and, Nat.testBit_two_pow]
  by_cases h : k = i
  · subst h
    by_cases hx : x.testBit k <;> simp [hx]
  · by_cases hx : x.testBit k
    · simp [h, hx]
    · simp [h, hx]
theorem bit_ne {x k : Nat} : ((x &&& 2 ^ k : Nat) : Int) ≠ 0 ↔ x.testBit k = true := by
  rw [and_pow]
  have : 2 ^ k ≠ 0 := Nat.pos_iff_ne_zero.1 (Nat.two_pow_pos k)
  by_cases h : x.testBit k
  · simp only [h, if_true, iff_true]; exact_mod_cast this
  · simp [h]
/-- The lowest bit that is set. -/
theorem low_bit {x : Nat} (h : x ≠ 0) : ∃ k, x.testBit k = true ∧ ∀ j, j < k → x.testBit j = false := by
  obtain ⟨i, hi⟩ := Nat.exists_testBit_of_ne_zero h
  have key : ∀ n, (∃ i, i < n ∧ x.testBit i = true) → ∃ k, x.testBit k = true ∧ ∀ j, j < k → x.testBit j = false := by
    intro n
    induction n with
    | zero => rintro ⟨i, hi, _⟩; omega
    | succ n ih =>
      rintro ⟨i, hi, hb⟩
      by_cases h' : ∃ i, i < n ∧ x.testBit i = true
      · exact ih h'
      · refine ⟨i, hb, fun j hj => ?_⟩
        by_cases hx : x.testBit j = true
        · exact absurd ⟨j, by omega, hx⟩ h'
        · simpa using hx
  exact key (i + 1) ⟨i, by omega, hi⟩
theorem and_neg {x k : Nat} (hx : x < 18446744073709551616) (h : x.testBit k = true) (hl : ∀ j, j < k → x.testBit j = false) : x &&& (18446744073709551616 - x) = 2 ^ k := by
  have hk : k < 64 := by
    by_cases hk : k < 64
    · exact hk
    · have : x.testBit k = false := Nat.testBit_lt_two_pow (Nat.lt_of_lt_of_le (show x < 2 ^ 64 by omega) (Nat.pow_le_pow_right (by decide) (by omega)))
      rw [this] at h; cases h
  have hpos : 0 < x := by
    rcases Nat.eq_zero_or_pos x with h0 | h0
    · subst h0; simp at h
    · exact h0
  -- x = 2^k + y, y above k
  have e2 : 18446744073709551616 - x = 2 ^ 64 - ((x - 1) + 1) := by omega
  have hge : 2 ^ k ≤ x := Nat.ge_two_pow_of_testBit h
  have hm : x % 2 ^ k = 0 := by
    apply Nat.eq_of_testBit_eq
    intro i
    rw [Nat.testBit_mod_two_pow]
    by_cases hi : i < k
    · simp [hi, hl i hi]
    · simp [hi]
  obtain ⟨q, hq⟩ : ∃ q, x = 2 ^ k * q := ⟨x / 2 ^ k, by have := Nat.div_add_mod x (2 ^ k); omega⟩
  have hq1 : q % 2 = 1 := by
    have := h
    rw [hq, Nat.testBit_two_pow_mul] at this
    simp at this
    omega
  obtain ⟨c, hc⟩ : ∃ c, q = 2 * c + 1 := ⟨q / 2, by omega⟩
  have hx1 : x - 1 = 2 ^ k * (2 * c) + (2 ^ k - 1) := by
    rw [hq, hc, Nat.mul_add, Nat.mul_one]
    have := Nat.two_pow_pos k
    omega
  apply Nat.eq_of_testBit_eq
  intro i
  rw [Nat.testBit_and, e2, Nat.testBit_two_pow_sub_succ (by omega), hx1, Nat.testBit_two_pow_mul_add _ (by have := Nat.two_pow_pos k; omega), Nat.testBit_two_pow]
  by_cases hi : i < k
  · have : k ≠ i := by omega
    simp [hi, hl i hi, this]
  · by_cases hki : k = i
    · subst hki
      simp [h, hk]
    · have : x.testBit i = (2 * c).testBit (i - k) := by
        rw [hq, Nat.testBit_two_pow_mul]
        have h1 : k ≤ i := by omega
        simp only [h1, decide_true, Bool.true_and]
        obtain ⟨j, hj⟩ : ∃ j, i - k = j + 1 := ⟨i - k - 1, by omega⟩
        rw [hj, hc, Nat.testBit_succ, Nat.testBit_succ]
        congr 1
        omega
      rw [this]
      cases hb : (2 * c).testBit (i - k) <;> simp [hki, hi]
end Go.SX
