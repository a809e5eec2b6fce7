/- Sets of pages, plain laws, part 3: what is not in a set. -/
import Derived.Test.YtofhmhbffdoiaaaDoorSB
namespace Go.Proofs.YtofhmhbffdoiaaaDoor
open Go Go.SX Go.VX
set_option maxRecDepth 100000
set_option linter.unusedVariables false
set_option linter.unusedSimpArgs false

def cpl (x : Int) : Int := 18446744073709551615 - x
theorem cpl_W {x : Int} (h : W64 x) : W64 (cpl x) := by unfold W64 cpl at *; omega
theorem cpl_ok {x : Int} (h : W64 x) : cplI .u64 x = cpl x := by
  obtain ⟨n, rfl⟩ : ∃ n : Nat, x = n := ⟨x.toNat, by unfold W64 at h; omega⟩
  unfold W64 at h
  rw [cplI_u64 (by omega)]
  unfold cpl; omega
theorem cpl_bit {x j : Nat} (hx : x < 18446744073709551616) (hj : j < 64) : (18446744073709551615 - x).testBit j = !x.testBit j := by
  have e : 18446744073709551615 - x = 2 ^ 64 - (x + 1) := by omega
  rw [e, Nat.testBit_two_pow_sub_succ (by omega)]
  simp [hj]
theorem clone_ok {s : Xs} (h : WF s) : s65_v2 s.n s.w = some ((), ((s.n, ()), s.w, (s.n, ()), s.w)) := by
  unfold s65_v2 s65 s65F
  rw [none_ok h]
  simp only [Option.bind_some, Bool.false_eq_true, if_false]
  have hlen := h.len
  have hhi := h.hi
  have hlo := h.lo
  have : s75 s.w = some ((), s.w) := by
    unfold s75 s75_v2 s75_v2F appI
    rw [if_neg (by omega), if_pos (by simp; omega)]
    rfl
  rw [this, Option.bind_some]
  rfl
/-- What is done behind the loop of Not. -/
def notEnd (n : Int) (w : List Int) : Option (List Int) :=
  if (Int.tmod n 64) > 0 then
    if 0 ≤ (IntKind.i64.wrap ((w.length : Int) - 1)) ∧ (IntKind.i64.wrap ((w.length : Int) - 1)) < (w.length : Int) then
    (getI w (IntKind.i64.wrap ((w.length : Int) - 1))).bind fun x7 =>
    if (0 : Int) ≤ (IntKind.u64.wrap (Int.tmod n 64)) then
    (setI w (IntKind.i64.wrap ((w.length : Int) - 1)) (andI .u64 x7 (IntKind.u64.wrap ((shlI .u64 1 (IntKind.u64.wrap (Int.tmod n 64))) - 1)))) else none else none
  else some w
theorem not_end (n1 n : Int) (w1 w : List Int) (L : Int) (i : Int) (h : ¬ i < L) (r) : s42_l1B r s42_j1 L i n1 w1 n w = (notEnd n w).map fun w' => ((), ((n1, ()), w1, (n, ()), w')) := by
  unfold s42_l1B notEnd s42_j1 s42_j1F
  rw [if_neg h, if_pos (by decide)]
  by_cases h1 : Int.tmod n 64 > 0
  · rw [if_pos h1, if_pos h1]
    by_cases h2 : 0 ≤ (IntKind.i64.wrap ((w.length : Int) - 1)) ∧ (IntKind.i64.wrap ((w.length : Int) - 1)) < (w.length : Int)
    · rw [if_pos h2, if_pos h2]
      cases getI w (IntKind.i64.wrap ((w.length : Int) - 1)) with
      | none => rfl
      | some x =>
        rw [Option.bind_some, Option.bind_some]
        by_cases h3 : (0 : Int) ≤ (IntKind.u64.wrap (Int.tmod n 64))
        · rw [if_pos h3, if_pos h3, if_pos h2]
          cases setI w _ _ with
          | none => rfl
          | some x => rfl
        · rw [if_neg h3, if_neg h3]; rfl
    · rw [if_neg h2, if_neg h2]; rfl
  · rw [if_neg h1, if_neg h1]; rfl
theorem not_loop (n1 : Int) (w1 : List Int) {n : Int} {w : List Int} (hw : ∀ x ∈ w, W64 x) (hl : w.length ≤ 64) : ∀ (fuel i : Nat), i ≤ w.length → w.length < fuel + i →
    s42_l1 fuel (w.length : Int) i n1 w1 n ((w.take i).map cpl ++ w.drop i) = (notEnd n (w.map cpl)).map fun w' => ((), ((n1, ()), w1, (n, ()), w')) := by
  intro fuel
  induction fuel with
  | zero => intro i h1 h2; omega
  | succ fuel ih =>
    intro i h1 h2
    show s42_l1B (s42_l1 fuel) s42_j1 (w.length : Int) i n1 w1 n ((w.take i).map cpl ++ w.drop i) = _
    by_cases hi : i < w.length
    · have hl2 : ((w.take i).map cpl ++ w.drop i).length = w.length := by simp; omega
      unfold s42_l1B
      rw [if_pos (by omega), if_pos ⟨by omega, by omega⟩]
      have hx : ((w.take i).map cpl ++ w.drop i)[i]? = some w[i] := by
        rw [List.getElem?_append_right (by simp; omega)]
        simp [Nat.min_eq_left h1, hi]
      rw [getI_of hx, Option.bind_some, if_pos ⟨by omega, by omega⟩, cpl_ok (hw _ (List.getElem_mem hi))]
      rw [setI_of (by omega) (by simp; omega), Option.bind_some]
      have e1 : IntKind.i64.wrap ((i : Int) + 1) = ((i + 1 : Nat) : Int) := by rw [i64_in _ (by omega)]; omega
      rw [e1]
      have e2 : ((w.take i).map cpl ++ w.drop i).set (i : Int).toNat (cpl w[i]) = (w.take (i + 1)).map cpl ++ w.drop (i + 1) := by
        rw [show (i : Int).toNat = i by omega]
        apply List.ext_getElem?
        intro j
        rw [List.getElem?_set]
        by_cases hj : i = j
        · subst hj
          rw [if_pos rfl, if_pos (by simp; omega), List.getElem?_append_left (by simp; omega)]
          simp [hi]
        · rw [if_neg hj]
          by_cases hj2 : j < i
          · rw [List.getElem?_append_left (by simp; omega), List.getElem?_append_left (by simp; omega)]
            simp only [List.getElem?_map, List.getElem?_take]
            rw [if_pos hj2, if_pos (by omega)]
          · rw [List.getElem?_append_right (by simp; omega), List.getElem?_append_right (by simp; omega)]
            simp only [List.getElem?_drop, List.length_map, List.length_take]
            congr 1
            omega
      rw [e2]
      exact ih (i + 1) (by omega) (by omega)
    · rw [not_end _ _ _ _ _ _ (by omega)]
      have e3 : (w.take i).map cpl ++ w.drop i = w.map cpl := by
        rw [List.take_of_length_le (by omega), List.drop_eq_nil_of_le (by omega), List.append_nil]
      rw [e3]
theorem not_ok {s : Xs} (h : WF s) : ∃ u, s42 s.n s.w = some ((), ((s.n, ()), s.w, (s.n, ()), u.w)) ∧ WF u ∧ u.n = s.n ∧ ∀ p : Nat, (p : Int) < s.n → bitAt u.w p = !bitAt s.w p := by
  have hlen := h.len
  have hhi := h.hi
  have hlo := h.lo
  have e0 : s42 s.n s.w = (notEnd s.n (s.w.map cpl)).map fun w' => ((), ((s.n, ()), s.w, (s.n, ()), w')) := by
    unfold s42 s42F
    rw [clone_ok h]
    simp only [Option.bind_some]
    have := not_loop s.n s.w (n := s.n) h.wd (by omega) FUEL 0 (by omega) (by unfold FUEL; omega)
    generalize FUEL = F at this ⊢
    simpa using this
  rw [e0]
  have mapW : ∀ x ∈ s.w.map cpl, W64 x := by
    intro x hx
    obtain ⟨y, hy, rfl⟩ := List.mem_map.1 hx
    exact cpl_W (h.wd y hy)
  have mapbit : ∀ p : Nat, (p : Int) < s.n → bitAt (s.w.map cpl) p = !bitAt s.w p := by
    intro p hp
    obtain ⟨x, h1, h2, h3⟩ := h.word hp
    rw [h3]
    have h4 : (s.w.map cpl)[p / 64]? = some ((18446744073709551615 - x : Nat) : Int) := by
      rw [List.getElem?_map, h1]
      show some (cpl x) = _
      unfold cpl
      congr 1
      omega
    unfold bitAt
    rw [List.getD_eq_getElem?_getD, h4]
    show (18446744073709551615 - x).testBit (p % 64) = _
    exact cpl_bit h2 (by omega)
  unfold notEnd
  obtain ⟨n, hn⟩ : ∃ n : Nat, s.n = n := ⟨s.n.toNat, by omega⟩
  rw [hn]
  have hm : Int.tmod (n : Int) 64 = ((n % 64 : Nat) : Int) := by rw [Int.tmod_eq_emod_of_nonneg (by omega)]; omega
  rw [mod_ok (by omega), hm]
  by_cases hk : n % 64 = 0
  · rw [if_neg (by omega)]
    refine ⟨⟨n, s.w.map cpl⟩, rfl, ⟨by simp only; omega, by simp only; omega, by simp only [List.length_map]; omega, mapW, fun p hp => ?_⟩, rfl, fun p hp => mapbit p (by omega)⟩
    simp only at hp ⊢
    exact bitAt_out (by simp only [List.length_map]; omega)
  · rw [if_pos (by omega)]
    obtain ⟨L, hL⟩ : ∃ L, s.w.length = L + 1 := ⟨s.w.length - 1, by omega⟩
    have hll : (s.w.map cpl).length = L + 1 := by simp [hL]
    have e1 : IntKind.i64.wrap (((s.w.map cpl).length : Int) - 1) = (L : Int) := by rw [hll, i64_in _ (by omega)]; omega
    rw [e1]
    have hlt : L < (s.w.map cpl).length := by omega
    obtain ⟨y, hy1, hy2⟩ : ∃ y : Nat, (s.w.map cpl)[L]? = some (y : Int) ∧ y < 18446744073709551616 := by
      have := mapW _ (List.getElem_mem hlt)
      unfold W64 at this
      exact ⟨(s.w.map cpl)[L].toNat, by rw [List.getElem?_eq_getElem hlt]; congr 1; omega, by omega⟩
    have h2p := two_le (k := n % 64) (by omega)
    have hpp := Nat.two_pow_pos (n % 64)
    have e2 : IntKind.u64.wrap (shlI .u64 1 ((n % 64 : Nat) : Int) - 1) = ((2 ^ (n % 64) - 1 : Nat) : Int) := by
      rw [shlI_one (by omega), u64_in _ (by omega)]; omega
    rw [if_pos ⟨by omega, by omega⟩, e2, getI_of hy1, Option.bind_some, if_pos (by omega), andI_u64 hy2 (by omega), setI_of (by omega) (by omega), Option.map_some, Nat.and_two_pow_sub_one_eq_mod]
    rw [show ((L : Int).toNat) = L by omega]
    have hmod : y % 2 ^ (n % 64) < 2 ^ (n % 64) := Nat.mod_lt _ hpp
    have bits : ∀ p : Nat, bitAt ((s.w.map cpl).set L ((y % 2 ^ (n % 64) : Nat) : Int)) p = (decide (p < n) && bitAt (s.w.map cpl) p) := by
      intro p
      by_cases hp : p / 64 = L
      · obtain ⟨j, rfl⟩ : ∃ j, p = 64 * L + j := ⟨p - 64 * L, by omega⟩
        rw [bitAt_in (x := y % 2 ^ (n % 64)) (by rw [List.getElem?_set_self hlt]) (by omega), bitAt_in hy1 (by omega), Nat.testBit_mod_two_pow]
        congr 1
        rw [decide_eq_decide]
        omega
      · unfold bitAt
        rw [List.getD_eq_getElem?_getD, List.getD_eq_getElem?_getD, List.getElem?_set_ne (Ne.symm hp)]
        by_cases hpl : p / 64 < L
        · rw [decide_eq_true (by omega)]; simp
        · rw [List.getElem?_eq_none (by omega)]; simp
    refine ⟨⟨n, _⟩, rfl, ⟨by simp only; omega, by simp only; omega, by simp only [List.length_set]; omega, fun x hx => ?_, fun p hp => ?_⟩, rfl, fun p hp => ?_⟩
    · rcases List.mem_or_eq_of_mem_set hx with h1 | h1
      · exact mapW x h1
      · subst h1; unfold W64; omega
    · simp only at hp ⊢
      rw [bits, decide_eq_false (by omega)]; rfl
    · simp only
      rw [bits, decide_eq_true (by omega), mapbit p (by omega)]; simp
theorem not_in {s u : Xs} (hn : u.n = s.n) (hb : ∀ p : Nat, (p : Int) < s.n → bitAt u.w p = !bitAt s.w p) {p : Int} (h0 : 0 ≤ p) (h1 : p < s.n) : In u p ↔ ¬ In s p := by
  have := hb p.toNat (by omega)
  unfold In
  rw [this, hn]
  cases bitAt s.w p.toNat <;> simp [h0, h1]
end Go.Proofs.YtofhmhbffdoiaaaDoor
