/- Plain laws of the free map, part 4: what all pages bear of a list is that list. -/
import Derived.Test.YtofhmhbffdoiaaaDoorPurePuts
namespace Go.Proofs.YtofhmhbffdoiaaaDoor
open Go Go.SX Go.VX
set_option maxRecDepth 100000
set_option linter.unusedVariables false
set_option linter.unusedSimpArgs false

/-! ### Lists that ascend -/
theorem asc_ext : ∀ {a b : List Int}, a.Pairwise (· < ·) → b.Pairwise (· < ·) → (∀ x, x ∈ a ↔ x ∈ b) → a = b
  | [], [], _, _, _ => rfl
  | [], y :: b, _, _, h => by cases (h y).2 (List.mem_cons_self ..)
  | x :: a, [], _, _, h => by cases (h x).1 (List.mem_cons_self ..)
  | x :: a, y :: b, ha, hb, h => by
    obtain ⟨a1, a2⟩ := List.pairwise_cons.1 ha
    obtain ⟨b1, b2⟩ := List.pairwise_cons.1 hb
    have e : x = y := by
      rcases List.mem_cons.1 ((h x).1 (List.mem_cons_self ..)) with e | m1
      · exact e
      · rcases List.mem_cons.1 ((h y).2 (List.mem_cons_self ..)) with e | m2
        · exact e.symm
        · have := a1 y m2; have := b1 x m1; omega
    subst e
    rw [asc_ext a2 b2 fun z => ⟨fun hz => by
      rcases List.mem_cons.1 ((h z).1 (List.mem_cons_of_mem _ hz)) with e | m
      · have := a1 z hz; omega
      · exact m, fun hz => by
      rcases List.mem_cons.1 ((h z).2 (List.mem_cons_of_mem _ hz)) with e | m
      · have := b1 z hz; omega
      · exact m⟩]
theorem Lst.asc {n : Int} : ∀ {last : Int} {xs : List Int}, Lst n last xs = true → xs.Pairwise (· < ·) ∧ ∀ x ∈ xs, last < x
  | _, [], _ => ⟨List.Pairwise.nil, fun _ h => by cases h⟩
  | last, p :: r, h => by
    unfold Lst at h
    by_cases h1 : p ≤ last ∨ p ≥ n
    · rw [if_pos h1] at h; cases h
    · rw [if_neg h1] at h
      obtain ⟨h2, h3⟩ := Lst.asc h
      refine ⟨List.pairwise_cons.2 ⟨h3, h2⟩, fun x hx => ?_⟩
      rcases List.mem_cons.1 hx with rfl | hx
      · omega
      · have := h3 x hx; omega
theorem bl_mem (q : List Int) (i : Nat) : ∀ (c k : Nat) (x : Int), x ∈ bl q i c k ↔ ∃ j, k ≤ j ∧ j < k + c ∧ bitOn q j ∧ x = ((i * 1024 + j : Nat) : Int)
  | 0, k, x => ⟨fun h => (List.not_mem_nil h).elim, fun ⟨j, h1, h2, _⟩ => by omega⟩
  | c + 1, k, x => by
    have ih := bl_mem q i c (k + 1) x
    rw [bl_succ]
    by_cases hb : bitOn q k
    · rw [if_pos hb, List.mem_cons, ih]
      constructor
      · rintro (h | ⟨j, h1, h2, h3, h4⟩)
        · exact ⟨k, by omega, by omega, hb, h⟩
        · exact ⟨j, by omega, by omega, h3, h4⟩
      · rintro ⟨j, h1, h2, h3, h4⟩
        by_cases hj : j = k
        · subst hj; exact Or.inl h4
        · exact Or.inr ⟨j, by omega, by omega, h3, h4⟩
    · rw [if_neg hb, ih]
      constructor
      · rintro ⟨j, h1, h2, h3, h4⟩
        exact ⟨j, by omega, by omega, h3, h4⟩
      · rintro ⟨j, h1, h2, h3, h4⟩
        refine ⟨j, ?_, by omega, h3, h4⟩
        by_cases hj : j = k
        · subst hj; exact absurd h3 hb
        · omega
theorem bl_asc (q : List Int) (i : Nat) : ∀ (c k : Nat), (bl q i c k).Pairwise (· < ·)
  | 0, k => List.Pairwise.nil
  | c + 1, k => by
    rw [bl_succ]
    have ih := bl_asc q i c (k + 1)
    split
    · refine List.pairwise_cons.2 ⟨fun x hx => ?_, ih⟩
      obtain ⟨j, h1, h2, h3, h4⟩ := (bl_mem q i c (k + 1) x).1 hx
      omega
    · exact ih
theorem allB_mem : ∀ (l : List (List Int)) (i : Nat) (x : Int), x ∈ allB l i ↔ ∃ t q j, l[t]? = some q ∧ j < nb q ∧ bitOn q j ∧ x = (((i + t) * 1024 + j : Nat) : Int)
  | [], i, x => ⟨fun h => (List.not_mem_nil h).elim, fun ⟨t, q, j, h, _⟩ => by simp at h⟩
  | q :: r, i, x => by
    show x ∈ bl q i (nb q) 0 ++ allB r (i + 1) ↔ _
    rw [List.mem_append, bl_mem, allB_mem r (i + 1) x]
    constructor
    · rintro (⟨j, h1, h2, h3, h4⟩ | ⟨t, q', j, h1, h2, h3, h4⟩)
      · exact ⟨0, q, j, rfl, by omega, h3, by rw [h4]; congr 2⟩
      · exact ⟨t + 1, q', j, by simpa using h1, h2, h3, by rw [h4]; congr 3; omega⟩
    · rintro ⟨t, q', j, h1, h2, h3, h4⟩
      cases t with
      | zero => obtain rfl : q = q' := by simpa using h1
                exact Or.inl ⟨j, by omega, by omega, h3, by rw [h4]; congr 2⟩
      | succ t => exact Or.inr ⟨t, q', j, by simpa using h1, h2, h3, by rw [h4]; congr 3; omega⟩
theorem allB_asc : ∀ (l : List (List Int)) (i : Nat), (allB l i).Pairwise (· < ·)
  | [], i => List.Pairwise.nil
  | q :: r, i => by
    show (bl q i (nb q) 0 ++ allB r (i + 1)).Pairwise (· < ·)
    refine List.pairwise_append.2 ⟨bl_asc .., allB_asc r (i + 1), fun x hx y hy => ?_⟩
    obtain ⟨j, h1, h2, h3, h4⟩ := (bl_mem ..).1 hx
    obtain ⟨t, q', j', g1, g2, g3, g4⟩ := (allB_mem ..).1 hy
    have hn : nb q ≤ 1024 := by unfold nb; omega
    rw [h4, g4]
    have : i * 1024 + j < (i + 1 + t) * 1024 + j' := by omega
    omega
/-! ### What is put is read back -/
theorem bit_or (z c d : Nat) : (z ||| 2 ^ c) / 2 ^ d % 2 = 1 ↔ z / 2 ^ d % 2 = 1 ∨ c = d := by
  have h := Nat.testBit_or z (2 ^ c) d
  rw [Nat.testBit_two_pow, Nat.testBit_eq_decide_div_mod_eq, Nat.testBit_eq_decide_div_mod_eq] at h
  have h2 := congrArg (fun b => b = true) h
  simp only [decide_eq_true_eq, Bool.or_eq_true] at h2
  exact iff_of_eq h2
theorem upd_bit {i j : Nat} {b : List Int} (hb : b.length = 240 ∧ B8 b) {x : Int} (hx : 0 ≤ x) (hj : j < 1024) : bitOn (upd (i : Int) b x) j ↔ bitOn b j ∨ x = ((i * 1024 + j : Nat) : Int) := by
  obtain ⟨y, rfl⟩ : ∃ y : Nat, x = y := ⟨x.toNat, by omega⟩
  unfold upd
  rw [Int.toNat_natCast]
  by_cases h : ((y / 1024 : Nat) : Int) = (i : Int)
  · rw [if_pos h]
    have hp : y % 1024 / 8 < b.length := by omega
    unfold bitOn
    by_cases he : j / 8 = y % 1024 / 8
    · have hj8 : j / 8 < b.length := by omega
      have hz := hb.2.get (List.getElem?_eq_getElem hj8)
      obtain ⟨z, ez⟩ : ∃ z : Nat, b[j / 8] = (z : Int) := ⟨b[j / 8].toNat, by omega⟩
      have e := shlI_nat (k := .u8) rfl (a := 1) (s := y % 1024 % 8) (by show _ ≤ 8; omega)
      rw [show ((1 : Nat) : Int) = 1 from rfl] at e
      have hpow : 1 * 2 ^ (y % 1024 % 8) % 2 ^ IntKind.bits .u8 = 2 ^ (y % 1024 % 8) := by
        rw [Nat.one_mul]
        exact Nat.mod_eq_of_lt (Nat.pow_lt_pow_right (by decide) (by show _ < 8; omega))
      rw [hpow] at e
      have hlt : 2 ^ (y % 1024 % 8) < 2 ^ IntKind.bits .u8 := Nat.pow_lt_pow_right (by decide) (by show _ < 8; omega)
      rw [← he, List.getD_eq_getElem?_getD, List.getD_eq_getElem?_getD, List.getElem?_set_self hj8, List.getElem?_eq_getElem hj8]
      simp only [Option.getD_some]
      rw [ez, e, orI_nat (k := .u8) rfl (by show _ < 256; omega) hlt, Int.toNat_natCast, Int.toNat_natCast, bit_or]
      constructor
      · rintro (h1 | h1)
        · exact Or.inl h1
        · exact Or.inr (by omega)
      · rintro (h1 | h1)
        · exact Or.inl h1
        · exact Or.inr (by omega)
    · rw [List.getD_eq_getElem?_getD, List.getD_eq_getElem?_getD, List.getElem?_set_ne (fun h => he h.symm)]
      constructor
      · exact Or.inl
      · rintro (h1 | h1)
        · exact h1
        · exact absurd (by omega) he
  · rw [if_neg h]
    constructor
    · exact Or.inl
    · rintro (h1 | h1)
      · exact h1
      · exact absurd (by omega) h
theorem fold_bit {i j : Nat} (hj : j < 1024) : ∀ (xs b : List Int), b.length = 240 ∧ B8 b → (∀ x ∈ xs, 0 ≤ x) → (bitOn (xs.foldl (upd (i : Int)) b) j ↔ bitOn b j ∨ ((i * 1024 + j : Nat) : Int) ∈ xs)
  | [], b, _, _ => by simp
  | x :: xs, b, hb, hx => by
    rw [List.foldl_cons, fold_bit hj xs _ (upd_fine hb) fun y hy => hx y (List.mem_cons_of_mem _ hy), upd_bit hb (hx x (List.mem_cons_self ..)) hj, List.mem_cons]
    constructor
    · rintro ((h | h) | h)
      · exact Or.inl h
      · exact Or.inr (Or.inl h.symm)
      · exact Or.inr (Or.inr h)
    · rintro (h | h | h)
      · exact Or.inl (Or.inl h)
      · exact Or.inl (Or.inr h.symm)
      · exact Or.inr h
theorem put0_bit {j : Nat} : ¬ bitOn put0 j := by
  unfold bitOn put0
  rw [List.getD_eq_getElem?_getD, List.getElem?_replicate]
  split <;> simp
def pg (xs : List Int) (i : Nat) : List Int := xs.foldl (upd (i : Int)) put0
theorem pg_fine (xs : List Int) (i : Nat) : (pg xs i).length = 240 ∧ B8 (pg xs i) := foldl_inv (P := fun b => b.length = 240 ∧ B8 b) xs put0 put0_fine fun s x _ hs => upd_fine hs
def pgs (xs : List Int) (k : Nat) : List (List Int) := (List.range k).map (pg xs)
theorem pgs_len (xs : List Int) (k : Nat) : (pgs xs k).length = k := by simp [pgs]
theorem pgs_get (xs : List Int) {k t : Nat} : (pgs xs k)[t]? = if t < k then some (pg xs t) else none := by
  unfold pgs
  rw [List.getElem?_map]
  by_cases h : t < k
  · rw [if_pos h, List.getElem?_range h]; rfl
  · rw [if_neg h, List.getElem?_eq_none (by rw [List.length_range]; omega)]; rfl
theorem back_all {n : Int} {xs : List Int} (h : Lst n (-1) xs = true) {N : Nat} (hN : n ≤ ((1024 * N : Nat) : Int)) : allB (pgs xs N) 0 = xs := by
  obtain ⟨h1, h2⟩ := Lst.asc h
  have h3 := Lst.lt h (by omega)
  refine asc_ext (allB_asc ..) h1 fun x => ?_
  rw [allB_mem]
  constructor
  · rintro ⟨t, q, j, e, hj, hb, rfl⟩
    rw [pgs_get] at e
    split at e
    · cases e
      have hn : nb (pg xs t) ≤ 1024 := by unfold nb; omega
      rcases (fold_bit (by omega) xs put0 put0_fine fun x hx => (h3 x hx).1).1 hb with hb | hb
      · exact absurd hb put0_bit
      · rw [Nat.zero_add]; exact hb
    · cases e
  · intro hx
    have hxx := h3 x hx
    obtain ⟨y, rfl⟩ : ∃ y : Nat, x = y := ⟨x.toNat, by omega⟩
    have hn : nb (pg xs (y / 1024)) = 1024 := by unfold nb; rw [(pg_fine xs _).1]; rfl
    refine ⟨y / 1024, pg xs (y / 1024), y % 1024, ?_, by omega, ?_, by omega⟩
    · rw [pgs_get, if_pos (by omega)]
    · refine (fold_bit (by omega) xs put0 put0_fine fun x hx => (h3 x hx).1).2 (Or.inr ?_)
      rw [show y / 1024 * 1024 + y % 1024 = y by omega]
      exact hx
end Go.Proofs.YtofhmhbffdoiaaaDoor
