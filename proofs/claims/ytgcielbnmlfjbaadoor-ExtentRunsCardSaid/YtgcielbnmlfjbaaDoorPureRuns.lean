/- The plain law of ExtentRuns: what the call computes is true, whatever is handed in. -/
import Derived.Test.YtgcielbnmlfjbaaDoorPureFits
import Derived.Test.YtgcielbnmlfjbaaDoorP6
namespace Go.Proofs.YtgcielbnmlfjbaaDoor
open Go Go.SX
def tot : List Int → Int
  | [] => 0
  | x :: l => x + tot l
theorem tot_append : ∀ (l m : List Int), tot (l ++ m) = tot l + tot m
  | [], m => by simp [tot]
  | x :: l, m => by simp only [List.cons_append, tot, tot_append l m]; omega
theorem tot_nonneg : ∀ (l : List Int), (∀ x ∈ l, 0 ≤ x) → 0 ≤ tot l
  | [], _ => by simp [tot]
  | x :: l, h => by
    have := tot_nonneg l fun y hy => h y (List.mem_cons_of_mem _ hy)
    have := h x (List.mem_cons_self ..)
    simp only [tot]; omega
theorem tot_take {l : List Int} (h : ∀ x ∈ l, 0 ≤ x) (i : Nat) : 0 ≤ tot (l.take i) ∧ tot (l.take i) ≤ tot l := by
  have h1 := tot_nonneg (l.take i) fun x hx => h x (List.mem_of_mem_take hx)
  have h2 := tot_nonneg (l.drop i) fun x hx => h x (List.mem_of_mem_drop hx)
  have h3 := tot_append (l.take i) (l.drop i)
  rw [List.take_append_drop] at h3
  omega
theorem tot_next {l : List Int} {i : Nat} {x : Int} (h : l[i]? = some x) : tot (l.take (i + 1)) = tot (l.take i) + x := by
  rw [List.take_add_one, tot_append, h]
  simp [tot]
theorem C_all {w : List Int} {p : Nat} : ∀ d : Nat, (∀ q, p ≤ q → q < p + d → bitAt w q = true) → C w (p + d) = C w p + d
  | 0, _ => rfl
  | d + 1, h => by
    rw [← Nat.add_assoc, C_succ, C_all d fun q a b => h q a (by omega), h _ (by omega) (by omega)]
    simp only [if_true]; omega
theorem C_none {w : List Int} {p : Nat} : ∀ d : Nat, (∀ q, p ≤ q → q < p + d → bitAt w q = false) → C w (p + d) = C w p
  | 0, _ => rfl
  | d + 1, h => by
    rw [← Nat.add_assoc, C_succ, C_none d fun q a b => h q a (by omega), h _ (by omega) (by omega)]
    simp
/-- What was gathered below p. -/
structure Runs (s : T_extent_Set) (starts lens : List Int) (p : Int) : Prop where
  len : starts.length = lens.length
  at' : ∀ (i : Nat) (a l : Int), starts[i]? = some a → lens[i]? = some l → 1 ≤ l ∧ 0 ≤ a ∧ a + l ≤ p ∧ AllIn s a l
  sep : ∀ (i : Nat) (a l a' : Int), starts[i]? = some a → lens[i]? = some l → starts[i + 1]? = some a' → a + l < a'
  sum : tot lens = (C s.w p.toNat : Int)
  small : (starts.length : Int) ≤ p
  lo : 0 ≤ p
  hi : p ≤ s.n
  out : starts = [] ∨ ¬ In s p
theorem Runs.next {s : T_extent_Set} {starts lens : List Int} {p x e : Int} (h : Runs s starts lens p) (hf : First s p x) (hx : 0 ≤ x) (he : EndAt s x e) : Runs s (starts ++ [x]) (lens ++ [e - x]) e := by
  rcases hf with ⟨rfl, _⟩ | ⟨hin, hpx, hno⟩
  · omega
  obtain ⟨e1, e2, e3, e4⟩ := he
  have hl := h.len
  have hlo := h.lo
  refine ⟨by simp [hl], ?_, ?_, ?_, ?_, by omega, e2, .inr e4⟩
  · intro i a l ha hll
    by_cases hi : i < starts.length
    · rw [List.getElem?_append_left hi] at ha
      rw [List.getElem?_append_left (by omega)] at hll
      obtain ⟨a1, a2, a3, a4⟩ := h.at' i a l ha hll
      exact ⟨a1, a2, by omega, a4⟩
    · rw [List.getElem?_append_right (by omega)] at ha hll
      rw [← hl] at hll
      by_cases hi2 : i = starts.length
      · subst hi2
        simp at ha hll
        subst ha hll
        exact ⟨by omega, hx, by omega, fun k k0 k1 => e3 _ (by omega) (by omega)⟩
      · rw [List.getElem?_eq_none (by simp; omega)] at ha
        cases ha
  · intro i a l a' ha hll ha'
    have hi1 := (List.getElem?_eq_some_iff.1 ha').1
    simp at hi1
    have hi : i < starts.length := by omega
    rw [List.getElem?_append_left hi] at ha
    rw [List.getElem?_append_left (by omega)] at hll
    by_cases hi2 : i + 1 < starts.length
    · rw [List.getElem?_append_left hi2] at ha'
      exact h.sep i a l a' ha hll ha'
    · have : i + 1 = starts.length := by omega
      rw [this] at ha'
      simp at ha'
      subst ha'
      have := (h.at' i a l ha hll).2.2.1
      have hne : p ≠ x := by
        rintro rfl
        rcases h.out with h0 | h0
        · rw [h0] at hi; simp at hi
        · exact h0 hin
      omega
  · rw [tot_append, h.sum]
    have c1 := C_none (w := s.w) (p := p.toNat) (x.toNat - p.toNat) (fun q q0 q1 => by
      have := hno q (by omega) (by omega)
      unfold In at this
      cases hb : bitAt s.w q with
      | false => rfl
      | true => exact absurd ⟨by omega, by have := hin.2.1; omega, by simpa using hb⟩ this)
    have c2 := C_all (w := s.w) (p := x.toNat) (e.toNat - x.toNat) (fun q q0 q1 => by
      have := (e3 q (by omega) (by omega)).2.2
      simpa using this)
    rw [show p.toNat + (x.toNat - p.toNat) = x.toNat by omega] at c1
    rw [show x.toNat + (e.toNat - x.toNat) = e.toNat by omega] at c2
    simp only [tot]
    omega
  · have := h.small
    simp
    omega
/-- The pages of one run. -/
theorem pages_ok {s : T_extent_Set} (h : WF s) {lens : List Int} {t a l : Int} {i : Nat} {rec : Int → Int → Option Bool} (ha : 0 ≤ a) (hal : a + l ≤ 2048) (hall : AllIn s a l) (hl : lens[i]? = some l) :
    ∀ (fuel : Nat) (j : Int), 0 ≤ j → j ≤ l → l - j < fuel → g3_l5 s lens t i rec a l fuel j = rec (IntKind.i64.wrap (t + l)) (IntKind.i64.wrap ((i : Int) + 1)) := by
  intro fuel
  induction fuel with
  | zero => intro j h1 h2 h3; omega
  | succ fuel ih =>
    intro j h1 h2 h3
    show g3_l5B s lens t i rec a l (g3_l5 s lens t i rec a l fuel) j = _
    unfold g3_l5B
    by_cases hj : j < l
    · rw [if_pos hj, i64_in (a + j) (by omega), has_ok h, Option.bind_some, decide_eq_true (hall j h1 hj), if_neg (by simp), i64_in (j + 1) (by omega)]
      exact ih (j + 1) (by omega) (by omega) (by omega)
    · rw [if_neg hj, getI_of hl, Option.bind_some]
theorem check_ok {s : T_extent_Set} (h : WF s) {starts lens : List Int} {p : Int} (hr : Runs s starts lens p) (hc : tot lens = (card s : Int)) :
    ∀ (fuel i : Nat), i ≤ starts.length → starts.length < fuel + i → g3_l3 s.n s lens starts fuel (tot (lens.take i)) i = some true := by
  have hhi := h.hi
  have hcard := card_le h
  have hp := hr.hi
  have hsm := hr.small
  have hlen := hr.len
  have hnn : ∀ x ∈ lens, 0 ≤ x := by
    intro x hx
    obtain ⟨i, hi, rfl⟩ := List.getElem_of_mem hx
    have h1 : starts[i]? = some (starts[i]'(by omega)) := by simp [show i < starts.length by omega]
    have h2 : lens[i]? = some lens[i] := by simp [hi]
    have := (hr.at' i _ _ h1 h2).1
    omega
  intro fuel
  induction fuel with
  | zero => intro i h1 h2; omega
  | succ fuel ih =>
    intro i h1 h2
    show g3_l3B s.n s lens starts (g3_l3 s.n s lens starts fuel) _ i = _
    unfold g3_l3B
    by_cases hi : i < starts.length
    · rw [if_pos (by omega)]
      obtain ⟨a, ha⟩ : ∃ a, starts[i]? = some a := ⟨starts[i], by simp [hi]⟩
      obtain ⟨l, hl⟩ : ∃ l, lens[i]? = some l := ⟨lens[i]'(by omega), by simp [show i < lens.length by omega]⟩
      obtain ⟨r1, r2, r3, r4⟩ := hr.at' i a l ha hl
      have tb := tot_take hnn i
      have tn := tot_next hl
      have tb2 := tot_take hnn (i + 1)
      have step : ∀ b1 b2 b3 b4 b5 b6 b7 : Bool, ∀ y, b7 = false → g3_j4 s lens (tot (lens.take i)) i (g3_l3 s.n s lens starts fuel) a y b1 b2 b3 b4 b5 b6 b7 = some true := by
        intro b1 b2 b3 b4 b5 b6 b7 y hb7
        subst hb7
        unfold g3_j4
        rw [if_neg (by decide), getI_of hl, Option.bind_some]
        rw [pages_ok h r2 (by omega) r4 hl FUEL 0 (by omega) (by omega) (by unfold FUEL; omega)]
        rw [← tn, i64_in (tot (lens.take (i + 1))) (by omega)]
        have e1 : IntKind.i64.wrap ((i : Int) + 1) = ((i + 1 : Nat) : Int) := by rw [i64_in _ (by omega)]; omega
        rw [e1]
        exact ih (i + 1) (by omega) (by omega)
      rw [getI_of ha, Option.bind_some, getI_of hl, Option.bind_some, if_neg (by omega), if_neg (by omega)]
      by_cases hi0 : (i : Int) > 0
      · rw [if_pos hi0]
        have e1 : IntKind.i64.wrap ((i : Int) - 1) = ((i - 1 : Nat) : Int) := by rw [i64_in _ (by omega)]; omega
        obtain ⟨a0, ha0⟩ : ∃ a, starts[i - 1]? = some a := ⟨starts[i - 1]'(by omega), by simp [show i - 1 < starts.length by omega]⟩
        obtain ⟨l0, hl0⟩ : ∃ l, lens[i - 1]? = some l := ⟨lens[i - 1]'(by omega), by simp [show i - 1 < lens.length by omega]⟩
        obtain ⟨s1, s2, s3, s4⟩ := hr.at' (i - 1) a0 l0 ha0 hl0
        have hsep := hr.sep (i - 1) a0 l0 a ha0 hl0 (by rw [show i - 1 + 1 = i by omega]; exact ha)
        rw [e1, getI_of ha0, Option.bind_some, getI_of hl0, Option.bind_some, i64_in (a0 + l0) (by omega), if_neg (by omega), Option.bind_some]
        exact step _ _ _ _ _ _ _ _ (by rw [i64_in (s.n - l) (by omega)]; exact decide_eq_false (by omega))
      · rw [if_neg hi0, Option.bind_some]
        exact step _ _ _ _ _ _ _ _ (by rw [i64_in (s.n - l) (by omega)]; exact decide_eq_false (by omega))
    · rw [if_neg (by omega), len_ok h, Option.bind_some]
      rw [List.take_of_length_le (by omega), hc]
      simp
theorem gather_ok {s u : T_extent_Set} (h : WF s) (hu : WF u) (hn : u.n = s.n) (hb : ∀ p : Nat, (p : Int) < s.n → bitAt u.w p = !bitAt s.w p) :
    ∀ (fuel : Nat) (x p : Int) (starts lens : List Int), Runs s starts lens p → First s p x → (if x < 0 then 0 else s.n - x) < fuel → g3_l8 s.n s u fuel x lens starts = some true := by
  have hhi := h.hi
  intro fuel
  induction fuel with
  | zero =>
    intro x p starts lens hr hf hm
    rcases hf with ⟨rfl, _⟩ | ⟨h1, _⟩
    · rw [if_pos (by decide)] at hm; omega
    · have := h1.2.1; have := h1.1; rw [if_neg (by omega)] at hm; omega
  | succ fuel ih =>
    intro x p starts lens hr hf hm
    show g3_l8B s.n s u (g3_l8 s.n s u fuel) x lens starts = _
    unfold g3_l8B
    by_cases hx : x ≥ 0
    · rw [if_pos hx]
      have hin : In s x := by
        rcases hf with ⟨rfl, _⟩ | ⟨h1, _⟩
        · omega
        · exact h1
      have hx1 := hin.2.1
      rw [if_neg (by omega)] at hm
      obtain ⟨e, he, hf1⟩ := first_ok hu x (by omega)
      rw [he, Option.bind_some]
      have hend := end_of hn hb hin hf1
      have hcall : (if e < 0 then g3_j9 s.n s x lens starts (g3_l8 s.n s u fuel) s.n else g3_j9 s.n s x lens starts (g3_l8 s.n s u fuel) e) = g3_j9 s.n s x lens starts (g3_l8 s.n s u fuel) (if e < 0 then s.n else e) := by split <;> rfl
      rw [hcall]
      generalize (if e < 0 then s.n else e) = e' at hend
      have hr' := hr.next hf hx hend
      obtain ⟨q1, q2, q3, q4⟩ := hend
      have hs1 := hr.small
      have hs2 := hr.hi
      have hs3 := hr.len
      unfold g3_j9
      rw [if_neg (by omega)]
      unfold appI
      rw [if_pos (by simp; omega), Option.bind_some, if_pos (by simp; omega), Option.bind_some, i64_in (e' - x) (by omega)]
      obtain ⟨y, hy, hfy⟩ := first_ok h e' (by omega)
      rw [hy, Option.bind_some]
      refine ih y e' _ _ hr' hfy ?_
      rcases hfy with ⟨rfl, _⟩ | ⟨h5, h6, _⟩
      · rw [if_pos (by decide)]; omega
      · have := h5.1; rw [if_neg (by omega)]; omega
    · rw [if_neg hx]
      unfold g3_j2
      have hno : ∀ q : Int, p ≤ q → ¬ In s q := by
        rcases hf with ⟨_, h2⟩ | ⟨h1, _⟩
        · exact h2
        · have := h1.1; omega
      have hlo := hr.lo
      have hp := hr.hi
      have hc : tot lens = (card s : Int) := by
        rw [hr.sum]
        unfold card
        have c := C_none (w := s.w) (p := p.toNat) (s.n.toNat - p.toNat) (fun q q0 q1 => by
          have := hno q (by omega)
          unfold In at this
          cases hbq : bitAt s.w q with
          | false => rfl
          | true => exact absurd ⟨by omega, by omega, by simpa using hbq⟩ this)
        rw [show p.toNat + (s.n.toNat - p.toNat) = s.n.toNat by omega] at c
        rw [c]
      have hs := hr.small
      exact check_ok h hr hc FUEL 0 (by omega) (by unfold FUEL; omega)
theorem Pure.ExtentRuns (p0 : Int) (p1 : List Int) (_ : (Lit.int .i64 p0).wf = true) (h1 : p1.length ≤ 9223372036854775807 ∧ ∀ x ∈ p1, (Lit.int .i64 x).wf = true) : g3 p0 p1 = some true := by
  unfold g3
  rw [live_ok, Option.bind_some, if_neg (by simp), few_ok, Option.bind_some]
  unfold g3_j1
  by_cases hf : 1 ≤ p0 ∧ p0 ≤ 300 ∧ (p1.length : Int) ≤ 400
  · rw [decide_eq_true hf]
    simp only [not_true_eq_false, decide_false, Bool.false_eq_true, if_false]
    obtain ⟨s, hs, hw, hn, _⟩ := of_ok (n := p0) (l := p1) hf.1 (by omega) h1.1
    obtain ⟨u, hu, hwu, hnu, hbu⟩ := not_ok hw
    rw [hs, Option.bind_some]
    show ((g16 s).bind fun x29284 => _) = _
    rw [hu, Option.bind_some]
    show ((g27 s 0).bind fun x29678 => g3_l8 p0 s u FUEL x29678 [] []) = some true
    obtain ⟨x, hx, hfx⟩ := first_ok hw 0 (by omega)
    rw [hx, Option.bind_some, ← hn]
    have hhi := hw.hi
    have hlo := hw.lo
    refine gather_ok hw hwu hnu hbu FUEL x 0 [] [] ⟨rfl, ?_, ?_, rfl, by simp, by omega, by omega, .inl rfl⟩ hfx ?_
    · intro i a l ha; simp at ha
    · intro i a l a' ha; simp at ha
    · unfold FUEL
      rcases hfx with ⟨rfl, _⟩ | ⟨h5, _⟩
      · rw [if_pos (by decide)]; omega
      · have := h5.1; rw [if_neg (by omega)]; omega
  · rw [decide_eq_false hf]
    simp only [Bool.false_eq_true, not_false_eq_true, decide_true, if_true]
    rfl
end Go.Proofs.YtgcielbnmlfjbaaDoor
