/- The plain law of ExtentFits: what the call computes is true, whatever is handed in. -/
import Derived.Test.YtgcielbnmlfjbaaDoorP4
namespace Go.Proofs.YtgcielbnmlfjbaaDoor
open Go Go.SX
theorem few_ok (n : Int) (l : List Int) : g9 n l = some (decide (1 ≤ n ∧ n ≤ 300 ∧ (l.length : Int) ≤ 400)) := by
  unfold g9
  by_cases h1 : n ≥ 1
  · rw [if_pos h1]
    by_cases h2 : n ≤ 300
    · rw [if_pos h2]
      congr 1
      rw [decide_eq_decide]
      exact ⟨fun h => ⟨h1, h2, h⟩, fun h => h.2.2⟩
    · rw [if_neg h2]
      rw [decide_eq_false (by omega)]
  · rw [if_neg h1]
    rw [decide_eq_false (by omega)]
open Classical in
/-- One place. -/
theorem fits_in {s : T_extent_Set} (h : WF s) {c : Int} {b p first : Int} (hc : IntKind.i64.wrap (1 + Int.tmod (IntKind.i64.wrap c) 40) = b) (hb : 1 ≤ b ∧ b ≤ 256) (hp : 0 ≤ p ∧ p ≤ 2048) (rec : Int → Option Bool) :
    ∀ (fuel : Nat) (all : Bool) (k : Int), 0 ≤ k → k ≤ b → b - k < fuel → (all = true ↔ AllIn s p k) →
      g4_l3 c s first p rec fuel all k = if AllIn s p b then some (decide (first = p)) else rec (IntKind.i64.wrap (p + 1)) := by
  intro fuel
  induction fuel with
  | zero => intro all k h1 h2 h3; omega
  | succ fuel ih =>
    intro all k h1 h2 h3 hall
    show g4_l3B c s first p rec (g4_l3 c s first p rec fuel) all k = _
    unfold g4_l3B
    rw [hc]
    by_cases hk : k < b
    · rw [if_pos hk]
      have e1 : IntKind.i64.wrap (k + 1) = k + 1 := i64_in _ (by omega)
      rw [e1]
      cases all with
      | true =>
        rw [if_pos rfl, i64_in (p + k) (by omega), has_ok h, Option.bind_some]
        rw [ih _ (k + 1) (by omega) (by omega) (by omega)]
        rw [decide_eq_true_eq]
        constructor
        · intro hin j j0 j1
          by_cases hj : j = k
          · subst hj; exact hin
          · exact hall.1 rfl j j0 (by omega)
        · intro ha; exact ha k (by omega) (by omega)
      | false =>
        rw [if_neg (by decide)]
        rw [ih false (k + 1) (by omega) (by omega) (by omega)]
        constructor
        · intro h0; cases h0
        · intro ha
          exact hall.2 fun j j0 j1 => ha j j0 (by omega)
    · rw [if_neg hk]
      have hkb : k = b := by omega
      subst hkb
      by_cases ha : AllIn s p k
      · rw [if_pos (hall.2 ha), if_pos ha]
      · rw [if_neg (fun h0 => ha (hall.1 h0)), if_neg ha]
theorem fits_loop {s : T_extent_Set} (h : WF s) {c b first : Int} (hc : IntKind.i64.wrap (1 + Int.tmod (IntKind.i64.wrap c) 40) = b) (hb : 1 ≤ b ∧ b ≤ 256) (hr : RunAt s b first) :
    ∀ (fuel : Nat) (p : Int), 0 ≤ p → p ≤ s.n + 1 → s.n + 1 - p < fuel → (∀ q : Int, 0 ≤ q → q < p → ¬ AllIn s q b) → g4_l2 s.n c s first fuel p = some true := by
  classical
  have hhi := h.hi
  have hlo := h.lo
  intro fuel
  induction fuel with
  | zero => intro p h1 h2 h3; omega
  | succ fuel ih =>
    intro p h1 h2 h3 hno
    show g4_l2B s.n c s first (g4_l2 s.n c s first fuel) p = _
    unfold g4_l2B
    rw [hc, i64_in (s.n - b) (by omega), Option.bind_some]
    by_cases hp : p ≤ s.n - b
    · rw [if_pos hp, fits_in h hc hb (by omega) _ FUEL true 0 (by omega) (by omega) (by unfold FUEL; omega) ⟨fun _ k k0 k1 => by omega, fun _ => rfl⟩]
      by_cases ha : AllIn s p b
      · rw [if_pos ha]
        congr 1
        rw [decide_eq_true_eq]
        rcases hr with ⟨rfl, h4⟩ | ⟨h4, h5, h6⟩
        · exact absurd ha (h4 p h1)
        · by_cases h7 : first < p
          · exact absurd h5 (hno first h4 h7)
          · by_cases h8 : p < first
            · exact absurd ha (h6 p h1 h8)
            · omega
      · rw [if_neg ha, i64_in (p + 1) (by omega)]
        refine ih (p + 1) (by omega) (by omega) (by omega) fun q q0 q1 hq => ?_
        by_cases hqp : q = p
        · subst hqp; exact ha hq
        · exact hno q q0 (by omega) hq
    · rw [if_neg hp]
      congr 1
      rw [decide_eq_true_eq]
      rcases hr with ⟨rfl, _⟩ | ⟨h4, h5, _⟩
      · rfl
      · exfalso
        by_cases h7 : first < p
        · exact hno first h4 h7 h5
        · have := (h5 (b - 1) (by omega) (by omega)).2.1
          omega
theorem Pure.ExtentFits (p0 : Int) (p1 : List Int) (p2 : Int) (_ : (Lit.int .i64 p0).wf = true) (h1 : p1.length ≤ 9223372036854775807 ∧ ∀ x ∈ p1, (Lit.int .i64 x).wf = true) (h2 : (Lit.int .u8 p2).wf = true) : g4 p0 p1 p2 = some true := by
  unfold g4
  rw [live_ok, Option.bind_some, if_neg (by simp), few_ok, Option.bind_some]
  unfold g4_j1
  by_cases hf : 1 ≤ p0 ∧ p0 ≤ 300 ∧ (p1.length : Int) ≤ 400
  · rw [decide_eq_true hf]
    simp only [not_true_eq_false, decide_false, Bool.false_eq_true, if_false]
    obtain ⟨s, hs, hw, hn, _⟩ := of_ok (n := p0) (l := p1) hf.1 (by omega) h1.1
    rw [hs, Option.bind_some]
    show ((g15 s (IntKind.i64.wrap (1 + Int.tmod (IntKind.i64.wrap p2) 40))).bind fun x31862 => g4_l2 p0 p2 s x31862 FUEL 0) = some true
    have hu := wf_u8 h2
    have hb : IntKind.i64.wrap (1 + Int.tmod (IntKind.i64.wrap p2) 40) = 1 + p2 % 40 := by
      rw [i64_in p2 (by omega), Int.tmod_eq_emod_of_nonneg hu.1, i64_in _ (by omega)]
    obtain ⟨r, hr, hra⟩ := run_ok hw (m := 1 + p2 % 40) (by omega)
    rw [hb, hr, Option.bind_some, ← hn]
    have hhi := hw.hi
    exact fits_loop hw hb (by omega) hra FUEL 0 (by omega) (by omega) (by unfold FUEL; omega) (fun q q0 q1 => by omega)
  · rw [decide_eq_false hf]
    simp only [Bool.false_eq_true, not_false_eq_true, decide_true, if_true]
    rfl
end Go.Proofs.YtgcielbnmlfjbaaDoor
