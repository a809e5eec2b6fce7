/- Plain laws of node for the print of VX, part 5: sizes of both halves. -/
import Derived.Test.YtefjbhogpgihaaaHD
namespace Go.Proofs.Ytefjbhogpgihaaa
open Go Go.SX Go.VX
set_option maxRecDepth 100000
set_option linter.unusedVariables false
set_option linter.unusedSimpArgs false
theorem crosses (f : Nat → Int) : ∀ (d lo : Nat), f lo ≤ 0 → 0 < f (lo + d) → ∃ i, lo ≤ i ∧ i < lo + d ∧ f i ≤ 0 ∧ 0 < f (i + 1)
  | 0, lo, h1, h2 => by rw [Nat.add_zero] at h2; omega
  | d + 1, lo, h1, h2 => by
    by_cases h : 0 < f (lo + 1)
    · exact ⟨lo, Nat.le_refl _, by omega, h1, h⟩
    · obtain ⟨i, i1, i2, i3, i4⟩ := crosses f d (lo + 1) (by omega) (by rw [show lo + 1 + d = lo + (d + 1) by omega]; exact h2)
      exact ⟨i, by omega, by omega, i3, i4⟩
/-- The sum of so many first ones. -/
def pre (l : List Nat) (i : Nat) : Nat := (l.take i).sum
theorem pre_succ {l : List Nat} {i : Nat} (h : i < l.length) : pre l (i + 1) = pre l i + l[i] := by
  unfold pre
  rw [List.take_succ_eq_append_getElem h, List.sum_append]
  simp
theorem pre_all (l : List Nat) : pre l l.length = l.sum := by unfold pre; rw [List.take_length]
theorem pre_drop (l : List Nat) (i : Nat) : pre l i + (l.drop i).sum = l.sum := by
  unfold pre
  rw [← List.sum_append, List.take_append_drop]
theorem wA (n : T_api_Node) (i : Nat) : widths (halfA n i) = (widths n).take i := by
  unfold widths halfA
  cases n.Leaf <;> simp [List.map_take]
theorem wB (n : T_api_Node) (i : Nat) : widths (halfB n i) = (widths n).drop (if n.Leaf then i else i + 1) := by
  unfold widths halfB
  cases n.Leaf <;> simp [List.map_drop]
theorem sA (n : T_api_Node) (i : Nat) : sizeN (halfA n i) = (if n.Leaf then 1 else 3) + pre (widths n) i := by
  unfold sizeN
  rw [wA]
  unfold halfA pre
  cases n.Leaf <;> rfl
theorem sB (n : T_api_Node) (i : Nat) : sizeN (halfB n i) = (if n.Leaf then 1 else 3) + ((widths n).drop (if n.Leaf then i else i + 1)).sum := by
  unfold sizeN
  rw [wB]
  unfold halfB
  cases n.Leaf <;> rfl
theorem last_w {n : T_api_Node} (m : MayP n) : (widths n).length = if n.Leaf then lastN n else lastN n + 1 := by
  unfold widths lastN
  cases hl : n.Leaf with
  | true => simp
  | false => have := (m.inner hl).2.2.1; simp; omega
/-- A node that is a little too long is cut into halves that fit, and are full enough. -/
theorem halves_fit {n : T_api_Node} (m : MayP n) (h1 : 240 < sizeN n) (h2 : sizeN n ≤ 240 + 51) (h3 : n.Leaf = false → sizeN n ≤ 240 + 28) : 1 < lastN n ∧ ∀ a, 1 ≤ a → a < lastN n → (∀ j, 1 ≤ j → j < lastN n → dst n a ≤ dst n j) →
    60 ≤ sizeN (halfA n a) ∧ sizeN (halfA n a) ≤ 240 ∧ 60 ≤ sizeN (halfB n a) ∧ sizeN (halfB n a) ≤ 240 := by
  obtain ⟨w1, w2, w3⟩ := widths_le m
  have hs := sum_le _ w1
  have hlw := last_w m
  cases hl : n.Leaf with
  | true =>
    rw [hl, if_pos rfl] at hlw
    have hS : sizeN n = 1 + (widths n).sum := by unfold sizeN; rw [hl]; rfl
    have hA : ∀ i, sizeN (halfA n i) = 1 + pre (widths n) i := fun i => by rw [sA, hl]; rfl
    have hB : ∀ i, sizeN (halfB n i) + pre (widths n) i = 1 + (widths n).sum := fun i => by
      have := pre_drop (widths n) i
      rw [sB, hl]; simp only [if_true]; omega
    have step : ∀ i, i < lastN n → pre (widths n) (i + 1) ≤ pre (widths n) i + 51 ∧ pre (widths n) i ≤ pre (widths n) (i + 1) := fun i hi => by
      rw [pre_succ (by omega : i < (widths n).length)]
      have := w1 _ (List.getElem_mem (by omega : i < (widths n).length))
      omega
    have h5 : 5 ≤ lastN n := by omega
    have p0 : pre (widths n) 0 = 0 := rfl
    have pl : pre (widths n) (lastN n) = (widths n).sum := by rw [← hlw]; exact pre_all _
    have q1 := step 0 (by omega)
    have q2 := step (lastN n - 1) (by omega)
    rw [Nat.sub_add_cancel (by omega)] at q2
    rw [Nat.zero_add] at q1
    obtain ⟨i, i1, i2, i3, i4⟩ := crosses (fun i => 2 * (pre (widths n) i : Int) - ((widths n).sum : Int)) (lastN n - 2) 1 (by show 2 * (pre (widths n) 1 : Int) - ((widths n).sum : Int) ≤ 0; omega) (by
      show 0 < 2 * (pre (widths n) (1 + (lastN n - 2)) : Int) - ((widths n).sum : Int)
      rw [show 1 + (lastN n - 2) = lastN n - 1 by omega]; omega)
    have q3 := step i (by omega)
    refine ⟨by omega, fun a a1 a2 a3 => ?_⟩
    have d1 := a3 i (by omega) (by omega)
    have d2 := a3 (i + 1) (by omega) (by omega)
    have e1 := hA a; have e2 := hB a; have e3 := hA i; have e4 := hB i; have e5 := hA (i + 1); have e6 := hB (i + 1)
    unfold dst at d1 d2
    split at d1 <;> split at d1 <;> split at d2 <;> omega
  | false =>
    have h3 := h3 hl
    rw [hl, if_neg (by decide)] at hlw
    have w28 : ∀ w ∈ widths n, w ≤ 28 := fun w hw => by
      unfold widths at hw
      rw [hl] at hw
      simp only [Bool.false_eq_true, if_false, List.mem_map] at hw
      obtain ⟨k, hk, rfl⟩ := hw
      have := (rise_keys _ _ m.keys k (List.mem_append_right _ hk)).2
      omega
    have hs28 : ∀ (l : List Nat), (∀ w ∈ l, w ≤ 28) → l.sum ≤ 28 * l.length := fun l => by
      induction l with
      | nil => simp
      | cons a l ih =>
        intro h
        have := ih fun w hw => h w (List.mem_cons_of_mem _ hw)
        have := h a (List.mem_cons_self ..)
        simp only [List.sum_cons, List.length_cons]
        omega
    have hs := hs28 _ w28
    have hS : sizeN n = 3 + (widths n).sum := by unfold sizeN; rw [hl]; rfl
    have hA : ∀ i, sizeN (halfA n i) = 3 + pre (widths n) i := fun i => by rw [sA, hl]; rfl
    have hB : ∀ i, sizeN (halfB n i) + pre (widths n) (i + 1) = 3 + (widths n).sum := fun i => by
      have := pre_drop (widths n) (i + 1)
      rw [sB, hl]; simp only [Bool.false_eq_true, if_false]; omega
    have step : ∀ i, i < lastN n + 1 → pre (widths n) (i + 1) ≤ pre (widths n) i + 28 ∧ pre (widths n) i ≤ pre (widths n) (i + 1) := fun i hi => by
      rw [pre_succ (by omega : i < (widths n).length)]
      have := w28 _ (List.getElem_mem (by omega : i < (widths n).length))
      omega
    have h5 : 5 ≤ lastN n := by omega
    have p0 : pre (widths n) 0 = 0 := rfl
    have pl : pre (widths n) (lastN n + 1) = (widths n).sum := by rw [← hlw]; exact pre_all _
    have q0 := step 0 (by omega)
    have q1 := step 1 (by omega)
    have q2 := step (lastN n - 1) (by omega)
    have q4 := step (lastN n) (by omega)
    rw [Nat.sub_add_cancel (by omega)] at q2
    rw [Nat.zero_add] at q0
    obtain ⟨i, i1, i2, i3, i4⟩ := crosses (fun i => (pre (widths n) i : Int) + (pre (widths n) (i + 1) : Int) - ((widths n).sum : Int)) (lastN n - 2) 1 (by show (pre (widths n) 1 : Int) + (pre (widths n) (1 + 1) : Int) - ((widths n).sum : Int) ≤ 0; omega) (by
      show 0 < (pre (widths n) (1 + (lastN n - 2)) : Int) + (pre (widths n) (1 + (lastN n - 2) + 1) : Int) - ((widths n).sum : Int)
      rw [show 1 + (lastN n - 2) + 1 = lastN n by omega, show 1 + (lastN n - 2) = lastN n - 1 by omega]; omega)
    have q3 := step i (by omega)
    have q5 := step (i + 1) (by omega)
    refine ⟨by omega, fun a a1 a2 a3 => ?_⟩
    have d1 := a3 i (by omega) (by omega)
    have d2 := a3 (i + 1) (by omega) (by omega)
    have q6 := step a (by omega)
    have e1 := hA a; have e2 := hB a; have e3 := hA i; have e4 := hB i; have e5 := hA (i + 1); have e6 := hB (i + 1)
    unfold dst at d1 d2
    split at d1 <;> split at d1 <;> split at d2 <;> omega
end Go.Proofs.Ytefjbhogpgihaaa
