/- The plain law of ExtentNot: what the call computes is true, whatever is handed in. -/
import Derived.Test.YtgcielbnmlfjbaaDoorPureFits
import Derived.Test.YtgcielbnmlfjbaaDoorP6
namespace Go.Proofs.YtgcielbnmlfjbaaDoor
open Go Go.SX
open Classical in
theorem same_decide {s t : T_extent_Set} (hs : WF s) (ht : WF t) (hn : s.n = t.n) : g18 s t = some (decide (∀ p : Int, 0 ≤ p → p < s.n → (In s p ↔ In t p))) := by
  rw [same_ok hs ht]
  congr 1
  rw [decide_eq_decide]
  exact same_in hs ht hn
theorem not_loop2 {s t u : T_extent_Set} (hs : WF s) (ht : WF t) (hu : WF u) (hst : s.n = t.n) (hn : u.n = s.n) (hb : ∀ p : Nat, (p : Int) < s.n → bitAt u.w p = !bitAt s.w p) :
    ∀ (fuel : Nat) (all : Bool) (k : Int), 0 ≤ k → k ≤ s.n → s.n - k < fuel → (all = true ↔ ∀ p : Int, 0 ≤ p → p < k → (In s p ↔ In t p)) → g5_l3 s.n s t u fuel all k = some true := by
  classical
  have hhi := hs.hi
  intro fuel
  induction fuel with
  | zero => intro all k h1 h2 h3; omega
  | succ fuel ih =>
    intro all k h1 h2 h3 hall
    show g5_l3B s.n s t u (g5_l3 s.n s t u fuel) all k = _
    unfold g5_l3B
    by_cases hk : k < s.n
    · rw [if_pos hk, has_ok hs, Option.bind_some, has_ok hu, Option.bind_some]
      have hno := not_in hn hb h1 hk
      rw [if_neg (by rw [decide_eq_decide]; intro h; by_cases ha : In s k
                     · exact (hno.1 (h.1 ha)) ha
                     · exact ha (h.2 (hno.2 ha)))]
      rw [i64_in (k + 1) (by omega)]
      cases all with
      | true =>
        rw [if_pos rfl, Option.bind_some, has_ok ht, Option.bind_some]
        refine ih _ (k + 1) (by omega) (by omega) (by omega) ?_
        rw [decide_eq_true_eq, decide_eq_decide]
        constructor
        · intro h p p0 p1
          by_cases hp : p = k
          · subst hp; exact h
          · exact hall.1 rfl p p0 (by omega)
        · intro h; exact h k h1 (by omega)
      | false =>
        rw [if_neg (by decide)]
        refine ih false (k + 1) (by omega) (by omega) (by omega) ?_
        constructor
        · intro h; cases h
        · intro h; exact hall.2 fun p p0 p1 => h p p0 (by omega)
    · rw [if_neg hk]
      have : k = s.n := by omega
      subst this
      rw [same_decide hs ht hst, Option.bind_some, same_decide ht hs hst.symm, Option.bind_some]
      have e1 : decide (∀ p : Int, 0 ≤ p → p < s.n → (In s p ↔ In t p)) = all := by
        cases all with
        | true => exact decide_eq_true (hall.1 rfl)
        | false => exact decide_eq_false fun h => by have := hall.2 h; cases this
      have e2 : decide (∀ p : Int, 0 ≤ p → p < t.n → (In t p ↔ In s p)) = all := by
        rw [← e1, decide_eq_decide, ← hst]
        exact ⟨fun h p a b => (h p a b).symm, fun h p a b => (h p a b).symm⟩
      rw [e1, if_pos rfl, e2]
      simp
theorem Pure.ExtentNot (p0 : Int) (p1 : List Int) (p2 : List Int) (_ : (Lit.int .i64 p0).wf = true) (h1 : p1.length ≤ 9223372036854775807 ∧ ∀ x ∈ p1, (Lit.int .i64 x).wf = true) (h2 : p2.length ≤ 9223372036854775807 ∧ ∀ x ∈ p2, (Lit.int .i64 x).wf = true) : g5 p0 p1 p2 = some true := by
  unfold g5
  rw [live_ok, Option.bind_some, if_neg (by simp), few_ok, Option.bind_some]
  have hout : g5_j1 p0 p1 p2 true = some true := by
    unfold g5_j1
    rw [if_pos rfl, live_ok]; rfl
  by_cases hf : 1 ≤ p0 ∧ p0 ≤ 300 ∧ (p1.length : Int) ≤ 400
  · rw [decide_eq_true hf, if_neg (by simp)]
    by_cases hg : (p2.length : Int) > 400
    · rw [decide_eq_true hg]; exact hout
    · rw [decide_eq_false hg]
      unfold g5_j1
      rw [if_neg (by decide)]
      obtain ⟨s, hs, hw, hn, _⟩ := of_ok (n := p0) (l := p1) hf.1 (by omega) h1.1
      obtain ⟨t, ht, hwt, hnt, _⟩ := of_ok (n := p0) (l := p2) hf.1 (by omega) h2.1
      obtain ⟨u, hu, hwu, hnu, hbu⟩ := not_ok hw
      obtain ⟨v, hv, hwv, hnv, hbv⟩ := not_ok hwu
      rw [hs, Option.bind_some]
      show ((g10 p0 p2).bind fun x36064 => _) = _
      rw [ht, Option.bind_some]
      show ((g16 s).bind fun x36081 => _) = _
      rw [hu, Option.bind_some]
      show ((g17 u).bind fun x36898 => _) = _
      have e17 : g17 u = some u.n := by
        unfold g17
        rw [none_ok hwu, Option.bind_some, if_neg (by decide)]
      have hcard := not_card hw hnu hbu
      have hhi := hw.hi
      rw [e17, Option.bind_some, if_neg (by rw [hnu, hn]; simp), len_ok hwu, Option.bind_some, len_ok hw, Option.bind_some, i64_in _ (by omega), if_neg (by omega)]
      rw [same_ok hw hwu, Option.bind_some]
      have hne : ¬ (s.n = u.n ∧ s.w = u.w) := by
        rintro ⟨_, he⟩
        have := hbu 0 (by have := hw.lo; omega)
        rw [← he] at this
        cases hbb : bitAt s.w 0 <;> simp [hbb] at this
      rw [decide_eq_false hne, if_neg (by decide), hv, Option.bind_some]
      show ((g18 v s).bind fun x36953 => _) = _
      have hvs : v.n = s.n := by rw [hnv, hnu]
      have hext : v.w = s.w := WF.ext hwv hw hvs fun p hp => by
        rw [hbv p (by omega), hbu p (by omega), Bool.not_not]
      have hboth : v.n = s.n ∧ v.w = s.w := ⟨hvs, hext⟩
      rw [same_ok hwv hw, Option.bind_some, decide_eq_true hboth]
      show g5_j2 p0 s t u (decide ¬(true = true)) = some true
      rw [decide_eq_false (by simp)]
      unfold g5_j2
      rw [if_neg (by decide), ← hn]
      exact not_loop2 hw hwt hwu (by rw [hn, hnt]) hnu hbu FUEL true 0 (by omega) (by omega) (by unfold FUEL; omega) ⟨fun _ p p0 p1 => by omega, fun _ => rfl⟩
  · rw [decide_eq_false hf, if_pos (by simp)]
    exact hout
end Go.Proofs.YtgcielbnmlfjbaaDoor
