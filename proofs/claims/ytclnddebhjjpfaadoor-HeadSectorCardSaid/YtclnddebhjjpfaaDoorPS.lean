/- Plain laws of frame: what the reference gets of a page; Want. -/
import Derived.Test.YtclnddebhjjpfaaDoorPB
set_option linter.unusedVariables false
set_option maxRecDepth 20000
namespace Go.Proofs.YtclnddebhjjpfaaDoor
open Go Go.SX
theorem getS_E0 (b : List Int) (at_ : Int) : (getS b at_).2 ≠ 0 → (getS b at_).1 = E0 := by
  unfold getS
  split
  · intro; rfl
  · split
    · intro; rfl
    · split
      · intro; rfl
      · intro h; exact absurd rfl h
theorem ofbe_two (x y : Int) : ofbe [x, y] = x.toNat * 256 + y.toNat := by simp [ofbe]
/-- What Get tells of any bytes. -/
def getA (b : List Int) (at_ : Int) : T_api_Frame × Int := if b.length = 256 then getS b at_ else (E0, 1)
theorem getA_ok {b : List Int} (hb : B8 b) (at_ : Int) : g70 b at_ = some (getA b at_) := by
  unfold getA
  by_cases h : b.length = 256
  · rw [if_pos h, get_ok hb h]
  · rw [if_neg h, get_len h]
theorem getA_E0 (b : List Int) (at_ : Int) : (getA b at_).2 ≠ 0 → (getA b at_).1 = E0 := by
  unfold getA
  split
  · exact getS_E0 b at_
  · intro; rfl
/-! ### Want -/
def wantS (r : T_api_Frame × Int) (kinds : List Int) : T_api_Frame × Int := if r.2 = 0 then (if r.1.Kind ∈ kinds then r else (E0, 42)) else (E0, r.2)
theorem index_loop (l : List Int) (x : Int) (hb : l.length < 9223372036854775807) : ∀ (fuel i : Nat), i ≤ l.length → l.length - i < fuel → ∃ k : Int, g77_l1 l x fuel (i : Int) = some k ∧ (k ≥ 0 ↔ x ∈ l.drop i) := by
  intro fuel
  induction fuel with
  | zero => intro i _ h; omega
  | succ n ih =>
    intro i hi hf
    have hun : g77_l1 l x (n + 1) (i : Int) = g77_l1B l x (g77_l1 l x n) (i : Int) := rfl
    rw [hun]
    unfold g77_l1B
    by_cases h : i < l.length
    · rw [if_pos (by omega), getI_nat, List.getElem?_eq_getElem h, Option.bind_some, List.drop_eq_getElem_cons h]
      by_cases hx : x = l[i]
      · rw [if_pos hx]
        exact ⟨i, rfl, fun _ => by rw [hx]; exact List.mem_cons_self .., fun _ => Int.natCast_nonneg _⟩
      · rw [if_neg hx, i64_in _ (by omega), show (i : Int) + 1 = ((i + 1 : Nat) : Int) by omega]
        obtain ⟨k, h1, h2⟩ := ih (i + 1) (by omega) (by omega)
        exact ⟨k, h1, by rw [h2, List.mem_cons]; exact ⟨.inr, fun h => h.resolve_left hx⟩⟩
    · rw [if_neg (by omega), List.drop_of_length_le (by omega)]
      exact ⟨-1, rfl, by simp⟩
theorem contains_ok (l : List Int) (x : Int) (hb : l.length < 9223372036854775807) : g65 l x = some (decide (x ∈ l)) := by
  unfold g65 g77
  obtain ⟨k, h1, h2⟩ := index_loop l x hb FUEL 0 (by omega) (by unfold FUEL; omega)
  have h3 := h1
  rw [show ((0 : Nat) : Int) = 0 from rfl] at h3
  rw [h3, Option.bind_some]
  congr 1
  rw [decide_eq_decide, h2, List.drop_zero]
theorem want_ok {b : List Int} (hb : B8 b) (at_ : Int) (l : List Int) (hl : l.length < 9223372036854775807) : g52 b at_ l = some (wantS (getA b at_) l) := by
  unfold g52 wantS
  rw [getA_ok hb, Option.bind_some]
  have j1 : ∀ c : Bool, g52_j1 (getA b at_) c = some (if c = true then (E0, 42) else getA b at_) := by
    intro c; unfold g52_j1; by_cases hc : c = true
    · rw [if_pos hc, if_pos hc]; rfl
    · rw [if_neg hc, if_neg hc]
  rw [j1, contains_ok l _ hl, Option.bind_some, j1]
  by_cases h : (getA b at_).2 = 0
  · rw [if_pos h, if_pos h]
    by_cases c : (getA b at_).1.Kind ∈ l
    · rw [if_pos c, if_neg (by simp [c])]
    · rw [if_neg c, if_pos (by simp [c])]
  · rw [if_neg h, if_neg h, if_neg (by decide)]
    congr 1
    have := getA_E0 b at_ h
    rw [← this]
end Go.Proofs.YtclnddebhjjpfaaDoor
