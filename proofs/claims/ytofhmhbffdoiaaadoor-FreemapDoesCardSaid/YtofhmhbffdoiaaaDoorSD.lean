/- Sets of pages, plain laws, part 4: pages put in, taken out; a new set. -/
import Derived.Test.YtofhmhbffdoiaaaDoorSC
namespace Go.Proofs.YtofhmhbffdoiaaaDoor
open Go Go.SX Go.VX
set_option maxRecDepth 100000
set_option linter.unusedVariables false
set_option linter.unusedSimpArgs false
/-- A page is put in. -/
def put (s : Xs) (p : Int) : Xs := ⟨s.n, s.w.set (p.toNat / 64) (((s.w.getD (p.toNat / 64) 0).toNat ||| 2 ^ (p.toNat % 64) : Nat) : Int)⟩
theorem put_bit {s : Xs} (h : WF s) {p : Int} (h0 : 0 ≤ p) (h1 : p < s.n) (q : Nat) : bitAt (put s p).w q = (bitAt s.w q || decide (q = p.toNat)) := by
  obtain ⟨n, rfl⟩ : ∃ n : Nat, p = n := ⟨p.toNat, by omega⟩
  obtain ⟨x, hx1, hx2, hx3⟩ := h.word (p := n) h1
  have hlt : n / 64 < s.w.length := (List.getElem?_eq_some_iff.1 hx1).1
  have hg : (s.w.getD (n / 64) 0).toNat = x := by rw [List.getD_eq_getElem?_getD, hx1]; rfl
  unfold put
  simp only [Int.toNat_natCast]
  rw [hg]
  by_cases hq : q / 64 = n / 64
  · obtain ⟨j, rfl⟩ : ∃ j, q = 64 * (n / 64) + j := ⟨q - 64 * (n / 64), by omega⟩
    rw [bitAt_in (x := x ||| 2 ^ (n % 64)) (by rw [List.getElem?_set_self hlt]) (by omega), bitAt_in hx1 (by omega), Nat.testBit_or, Nat.testBit_two_pow]
    congr 1
    rw [decide_eq_decide]
    omega
  · unfold bitAt
    rw [List.getD_eq_getElem?_getD, List.getD_eq_getElem?_getD, List.getElem?_set_ne (Ne.symm hq)]
    rw [decide_eq_false (by rintro rfl; exact hq rfl), Bool.or_false]
theorem put_WF {s : Xs} (h : WF s) {p : Int} (h0 : 0 ≤ p) (h1 : p < s.n) : WF (put s p) := by
  refine ⟨h.lo, h.hi, by unfold put; simp only [List.length_set]; exact h.len, fun x hx => ?_, fun q hq => ?_⟩
  · unfold put at hx
    rcases List.mem_or_eq_of_mem_set hx with h2 | h2
    · exact h.wd x h2
    · subst h2
      obtain ⟨y, hy1, hy2, _⟩ := h.word (p := p.toNat) (by omega)
      have hg : (s.w.getD (p.toNat / 64) 0).toNat = y := by rw [List.getD_eq_getElem?_getD, hy1]; rfl
      rw [hg]
      have := Nat.or_lt_two_pow (n := 64) (x := y) (y := 2 ^ (p.toNat % 64)) (by omega) (Nat.pow_lt_pow_right (by decide) (by omega))
      unfold W64; omega
  · have hq' : s.n ≤ (q : Int) := hq
    rw [put_bit h h0 h1, h.top q hq', decide_eq_false (by omega)]; rfl
theorem add_ok {s : Xs} (h : WF s) (p : Int) : s41 p s.n s.w = some (if 0 ≤ p ∧ p < s.n then (if In s p then (70, ((s.n, ()), s.w)) else (0, ((s.n, ()), (put s p).w))) else (1, ((s.n, ()), s.w))) := by
  unfold s41 s41F
  rw [may_ok h]
  simp only [Option.bind_some]
  by_cases hp : 0 ≤ p ∧ p < s.n
  · rw [if_pos hp, if_neg (by decide), if_pos hp, has_ok h]
    simp only [Option.bind_some]
    by_cases hin : In s p
    · rw [decide_eq_true hin, if_pos rfl, if_pos hin]
    · rw [decide_eq_false hin, if_neg (by decide), if_neg hin]
      obtain ⟨n, rfl⟩ : ∃ n : Nat, p = n := ⟨p.toNat, by omega⟩
      have hhi := h.hi
      obtain ⟨x, hx1, hx2, hx3⟩ := h.word (p := n) hp.2
      have hlt : n / 64 < s.w.length := (List.getElem?_eq_some_iff.1 hx1).1
      have h2p := two_le (k := n % 64) (by omega)
      rw [if_pos (by decide), div_ok (by omega), if_pos ⟨by omega, by omega⟩, getI_of hx1, Option.bind_some, bit_ok (by omega), Option.bind_some, if_pos ⟨by omega, by omega⟩, orI_u64 hx2 (by omega), setI_of (by omega) (by omega), Option.bind_some]
      unfold put
      have hg : (s.w.getD (n / 64) 0).toNat = x := by rw [List.getD_eq_getElem?_getD, hx1]; rfl
      simp only [Int.toNat_natCast]
      rw [hg]
  · rw [if_neg hp, if_pos (by decide), if_neg hp]
/-- A page is taken out. -/
def cut (s : Xs) (p : Int) : Xs := ⟨s.n, s.w.set (p.toNat / 64) (((s.w.getD (p.toNat / 64) 0).toNat &&& (18446744073709551615 - 2 ^ (p.toNat % 64)) : Nat) : Int)⟩
theorem inv_bit {k j : Nat} (hk : k < 64) (hj : j < 64) : (18446744073709551615 - 2 ^ k).testBit j = !decide (j = k) := by
  have hp : (2 : Nat) ^ k < 18446744073709551616 := Nat.lt_of_le_of_lt (two_le hk) (by decide)
  rw [cpl_bit hp hj, Nat.testBit_two_pow]
  congr 1
  rw [decide_eq_decide]
  omega
theorem cut_bit {s : Xs} (h : WF s) {p : Int} (h0 : 0 ≤ p) (h1 : p < s.n) (q : Nat) : bitAt (cut s p).w q = (bitAt s.w q && !decide (q = p.toNat)) := by
  obtain ⟨n, rfl⟩ : ∃ n : Nat, p = n := ⟨p.toNat, by omega⟩
  obtain ⟨x, hx1, hx2, hx3⟩ := h.word (p := n) h1
  have hlt : n / 64 < s.w.length := (List.getElem?_eq_some_iff.1 hx1).1
  have hg : (s.w.getD (n / 64) 0).toNat = x := by rw [List.getD_eq_getElem?_getD, hx1]; rfl
  unfold cut
  simp only [Int.toNat_natCast]
  rw [hg]
  by_cases hq : q / 64 = n / 64
  · obtain ⟨j, rfl⟩ : ∃ j, q = 64 * (n / 64) + j := ⟨q - 64 * (n / 64), by omega⟩
    rw [bitAt_in (x := x &&& (18446744073709551615 - 2 ^ (n % 64))) (by rw [List.getElem?_set_self hlt]) (by omega), bitAt_in hx1 (by omega), Nat.testBit_and, inv_bit (by omega) (by omega)]
    congr 2
    rw [decide_eq_decide]
    omega
  · unfold bitAt
    rw [List.getD_eq_getElem?_getD, List.getD_eq_getElem?_getD, List.getElem?_set_ne (Ne.symm hq)]
    rw [decide_eq_false (by rintro rfl; exact hq rfl)]
    simp
theorem cut_WF {s : Xs} (h : WF s) {p : Int} (h0 : 0 ≤ p) (h1 : p < s.n) : WF (cut s p) := by
  refine ⟨h.lo, h.hi, by unfold cut; simp only [List.length_set]; exact h.len, fun x hx => ?_, fun q hq => ?_⟩
  · unfold cut at hx
    rcases List.mem_or_eq_of_mem_set hx with h2 | h2
    · exact h.wd x h2
    · subst h2
      have hle : (s.w.getD (p.toNat / 64) 0).toNat &&& (18446744073709551615 - 2 ^ (p.toNat % 64)) ≤ 18446744073709551615 - 2 ^ (p.toNat % 64) := Nat.and_le_right
      have hp := Nat.two_pow_pos (p.toNat % 64)
      generalize (s.w.getD (p.toNat / 64) 0).toNat &&& (18446744073709551615 - 2 ^ (p.toNat % 64)) = z at hle ⊢
      generalize 2 ^ (p.toNat % 64) = m at hle hp
      unfold W64; omega
  · have hq' : s.n ≤ (q : Int) := hq
    rw [cut_bit h h0 h1, h.top q hq']; rfl
theorem andNot_ok {x k : Nat} (hx : x < 18446744073709551616) (hk : k < 64) : andNotI .u64 (x : Int) ((2 ^ k : Nat) : Int) = ((x &&& (18446744073709551615 - 2 ^ k) : Nat) : Int) := by
  have h2 := two_le hk
  have hp := Nat.two_pow_pos k
  generalize 2 ^ k = m at *
  unfold andNotI
  rw [seen_eq]
  have h1 : (BitVec.ofInt IntKind.u64.bits (x : Int) &&& ~~~BitVec.ofInt IntKind.u64.bits (m : Int)).toNat = x &&& (18446744073709551615 - m) := by
    rw [ofInt_nat, ofInt_nat, BitVec.toNat_and, BitVec.toNat_not, BitVec.toNat_ofNat, BitVec.toNat_ofNat]
    rw [Nat.mod_eq_of_lt (by exact hx), Nat.mod_eq_of_lt (show m < 2 ^ IntKind.u64.bits by show m < 18446744073709551616; omega)]
    rfl
  rw [h1]
  refine u64_in _ ⟨by omega, ?_⟩
  have := Nat.and_le_left (n := x) (m := 18446744073709551615 - m)
  omega
theorem drop_ok {s : Xs} (h : WF s) (p : Int) : s48 p s.n s.w = some (if 0 ≤ p ∧ p < s.n then (if In s p then (0, ((s.n, ()), (cut s p).w)) else (4, ((s.n, ()), s.w))) else (1, ((s.n, ()), s.w))) := by
  unfold s48 s48F
  rw [may_ok h]
  simp only [Option.bind_some]
  by_cases hp : 0 ≤ p ∧ p < s.n
  · rw [if_pos hp, if_neg (by decide), if_pos hp, has_ok h]
    simp only [Option.bind_some]
    by_cases hin : In s p
    · rw [decide_eq_true hin, if_neg (by decide), if_pos hin]
      obtain ⟨n, rfl⟩ : ∃ n : Nat, p = n := ⟨p.toNat, by omega⟩
      have hhi := h.hi
      obtain ⟨x, hx1, hx2, hx3⟩ := h.word (p := n) hp.2
      have hlt : n / 64 < s.w.length := (List.getElem?_eq_some_iff.1 hx1).1
      rw [if_pos (by decide), div_ok (by omega), if_pos ⟨by omega, by omega⟩, getI_of hx1, Option.bind_some, bit_ok (by omega), Option.bind_some, if_pos ⟨by omega, by omega⟩, andNot_ok hx2 (by omega), setI_of (by omega) (by omega), Option.bind_some]
      unfold cut
      have hg : (s.w.getD (n / 64) 0).toNat = x := by rw [List.getD_eq_getElem?_getD, hx1]; rfl
      simp only [Int.toNat_natCast]
      rw [hg]
    · rw [decide_eq_false hin, if_pos (by decide), if_neg hin]
  · rw [if_neg hp, if_pos (by decide), if_neg hp]
theorem new_ok {n : Int} (h0 : 1 ≤ n) (h1 : n ≤ 2048) : s40_v2 n = some (((), ()), ((n, ()), List.replicate ((n + 63) / 64).toNat 0)) ∧ WF ⟨n, List.replicate ((n + 63) / 64).toNat 0⟩ := by
  constructor
  · unfold s40_v2 s40 s40F
    rw [if_neg (by omega)]
    unfold s40_j1 s40_j1F
    rw [decide_eq_false (by omega), if_neg (by decide), if_pos (by decide)]
    rw [i64_in (n + 64) (by omega), i64_in (n + 64 - 1) (by omega), Int.tdiv_eq_ediv_of_nonneg (by omega), i64_in _ (by omega)]
    rw [show n + 64 - 1 = n + 63 by omega]
    unfold repI
    rw [if_pos (by omega)]
    rfl
  · refine ⟨h0, h1, by simp only [List.length_replicate]; omega, fun x hx => ?_, fun p _ => ?_⟩
    · have := List.eq_of_mem_replicate hx
      subst this
      unfold W64; omega
    · unfold bitAt
      rw [List.getD_eq_getElem?_getD, List.getElem?_replicate]
      split <;> simp
end Go.Proofs.YtofhmhbffdoiaaaDoor
