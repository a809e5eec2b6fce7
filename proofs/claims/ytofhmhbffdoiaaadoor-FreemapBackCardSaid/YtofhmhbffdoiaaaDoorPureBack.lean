/- FreemapBack, the plain law: what all pages of the free map bear of a list is read back as that list. -/
import Derived.Test.YtofhmhbffdoiaaaDoorBackA
namespace Go.Proofs.YtofhmhbffdoiaaaDoor
open Go Go.SX Go.VX
set_option maxRecDepth 100000
set_option linter.unusedVariables false
set_option linter.unusedSimpArgs false

theorem need_pos {n : Int} (h : mayP n = true) : ∃ N : Nat, needV n = (N : Int) ∧ 1 ≤ N ∧ N ≤ 2 ∧ n ≤ ((1024 * N : Nat) : Int) := by
  have h1 : 8 ≤ n ∧ n ≤ 2048 := of_decide_eq_true h
  obtain ⟨y, rfl⟩ : ∃ y : Nat, n = y := ⟨n.toNat, by omega⟩
  unfold needV
  have t : Int.tdiv ((y - 1 : Nat) : Int) 1024 = (((y - 1) / 1024 : Nat) : Int) := rfl
  rw [if_pos h, show (y : Int) - 1 = ((y - 1 : Nat) : Int) by omega, i64_nat (by omega), t, i64_nat (by omega), show (1 : Int) + (((y - 1) / 1024 : Nat) : Int) = ((1 + (y - 1) / 1024 : Nat) : Int) by omega, i64_nat (by omega)]
  exact ⟨_, rfl, by omega, by omega, by omega⟩
theorem chk_good {n : Int} {xs : List Int} : ∀ (l : List (List Int)) (i : Nat), (∀ (t : Nat) q, l[t]? = some q → putV n xs ((i + t : Nat) : Int) = (((), 0), q)) → chk n xs l i = (((), 0), xs)
  | [], _, _ => rfl
  | q :: r, i, h => by
    have h0 := h 0 q rfl
    rw [Nat.add_zero] at h0
    unfold chk
    rw [h0, if_neg (by simp), if_pos rfl]
    exact chk_good r (i + 1) fun t q' e => by
      have := h (t + 1) q' (by simpa using e)
      rw [show i + (t + 1) = i + 1 + t by omega] at this
      exact this
theorem back_loop {n : Int} {xs : List Int} (hx : xs.length ≤ 5000) (h1 : mayP n = true) (h2 : Lst n (-1) xs = true) {N : Nat} (hN : needV n = (N : Int)) (hb : 1 ≤ N ∧ N ≤ 2 ∧ n ≤ ((1024 * N : Nat) : Int)) : ∀ (m k : Nat), k ≤ N → N - k < m →
    s4_l1 m n xs (N : Int) (k : Int) (pgs xs k) = some true := by
  have hput : ∀ k : Nat, k < N → putV n xs (k : Int) = (((), 0), pg xs k) := fun k hk => by
    unfold putV
    rw [if_pos ⟨h1, h2, by omega, by omega⟩]
    rfl
  intro m
  induction m with
  | zero => intro k _ h; omega
  | succ m ih =>
    intro k hk hm
    show s4_l1B (s4_l1 m) n xs (N : Int) (k : Int) (pgs xs k) = _
    unfold s4_l1B
    by_cases h : k < N
    · rw [if_pos (by omega), put_ok n (by omega), hput k h]
      simp only [Option.bind_some]
      rw [if_neg (by simp), appI_ok (by rw [pgs_len]; simp only [List.length_cons, List.length_nil]; omega), Option.bind_some, show (k : Int) + 1 = ((k + 1 : Nat) : Int) by omega, i64_nat (by omega)]
      have e : pgs xs k ++ [pg xs k] = pgs xs (k + 1) := by unfold pgs; rw [List.range_succ, List.map_append]; rfl
      rw [e]
      exact ih (k + 1) (by omega) (by omega)
    · rw [if_neg (by omega)]
      obtain rfl : k = N := by omega
      have hp : Pgs (pgs xs k) := ⟨by rw [pgs_len]; omega, fun q hq => by
        obtain ⟨t, ht⟩ := List.mem_iff_getElem?.1 hq
        rw [pgs_get] at ht
        split at ht <;> cases ht
        exact (pg_fine xs t).2, fun q hq => by
        obtain ⟨t, ht⟩ := List.mem_iff_getElem?.1 hq
        rw [pgs_get] at ht
        split at ht <;> cases ht
        rw [(pg_fine xs t).1]; omega⟩
      have e : getV n (pgs xs k) = (((), 0), xs) := by
        unfold getV
        rw [if_pos h1, pgs_len, if_pos hN.symm, back_all h2 hb.2.2]
        refine chk_good _ 0 fun t q e => ?_
        rw [pgs_get] at e
        split at e <;> cases e
        rename_i ht
        rw [Nat.zero_add]
        exact hput t ht
      rw [get_ok n hp, e]
      simp only [Option.bind_some]
      rw [if_neg (by rw [pgs_len]; omega), if_pos trivial, same_ok (by omega)]
      rfl
theorem Pure.FreemapBack (n : Int) (xs : List Int) (h0 : (Lit.int .i64 n).wf = true) (h1 : xs.length ≤ 9223372036854775807 ∧ ∀ x ∈ xs, (Lit.int .i64 x).wf = true) : s4 n xs = some true := by
  unfold s4 s4F
  rw [s9_ok, Option.bind_some, if_neg (by decide)]
  by_cases hx : (xs.length : Int) > 5000
  · rw [decide_eq_true hx]
    unfold s4_j1 s4_j1F
    rw [if_pos rfl, s9_ok]; rfl
  · rw [decide_eq_false hx]
    unfold s4_j1 s4_j1F
    rw [if_neg (by decide), need_ok, Option.bind_some]
    by_cases hm : mayP n = true
    · obtain ⟨N, e, hb⟩ := need_pos hm
      by_cases hl : Lst n (-1) xs = true
      · rw [e]
        exact back_loop (by omega) hm hl e hb FUEL 0 (by omega) (by unfold FUEL; omega)
      · show s4_l1B (s4_l1 18446744073709551615) n xs (needV n) 0 [] = _
        unfold s4_l1B
        have ep : putV n xs 0 = (((), 1), []) := by unfold putV; rw [if_neg (fun h => hl h.2.1)]
        rw [if_pos (by omega), put_ok n (by omega), ep]
        simp only [Option.bind_some]
        rw [if_pos (by decide), if_pos trivial, lst2_ok n (by omega), Option.bind_some, decide_eq_true hl]
    · have e : needV n = 0 := by unfold needV; rw [if_neg hm]
      rw [e]
      show s4_l1B (s4_l1 18446744073709551615) n xs 0 0 [] = _
      unfold s4_l1B
      have hp : Pgs [] := ⟨by simp, fun _ h => (List.not_mem_nil h).elim, fun _ h => (List.not_mem_nil h).elim⟩
      have eg : getV n [] = (((), 1), []) := by unfold getV; rw [if_neg hm]
      rw [if_neg (by omega), get_ok n hp, eg]
      simp
end Go.Proofs.YtofhmhbffdoiaaaDoor
