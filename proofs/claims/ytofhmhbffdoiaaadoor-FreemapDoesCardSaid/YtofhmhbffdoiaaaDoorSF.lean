/- Sets of pages, plain laws, part 6: how many pages are in a set; sets told by what is in them. -/
import Derived.Test.YtofhmhbffdoiaaaDoorSE
namespace Go.Proofs.YtofhmhbffdoiaaaDoor
open Go Go.SX Go.VX
set_option maxRecDepth 100000
set_option linter.unusedVariables false
set_option linter.unusedSimpArgs false
theorem cnt_count : ∀ (n x : Nat), cnt n x = (List.range n).countP fun j => x.testBit j
  | 0, _ => rfl
  | n + 1, x => by
    rw [List.range_succ_eq_map, List.countP_cons, List.countP_map, cnt, cnt_count n]
    have h1 : (fun j => (x / 2).testBit j) = (fun j => x.testBit j) ∘ Nat.succ := by
      funext j
      simp [Nat.testBit_succ]
    rw [h1]
    have h2 : x % 2 = if x.testBit 0 = true then 1 else 0 := by
      rw [Nat.testBit_zero]
      by_cases h : x % 2 = 1
      · simp [h]
      · simp [h]; omega
    rw [h2, Nat.add_comm]
/-- How many of the pages below p are in it. -/
def C (w : List Int) (p : Nat) : Nat := (List.range p).countP fun q => bitAt w q
theorem C_succ (w : List Int) (p : Nat) : C w (p + 1) = C w p + if bitAt w p = true then 1 else 0 := by
  unfold C
  rw [List.range_succ, List.countP_append]
  simp [List.countP_cons]
theorem C_le (w : List Int) (p : Nat) : C w p ≤ p := by
  unfold C
  have := List.countP_le_length (p := fun q => bitAt w q) (l := List.range p)
  simpa using this
theorem C_word {w : List Int} {i x : Nat} (h : w[i]? = some (x : Int)) : C w (64 * (i + 1)) = C w (64 * i) + cnt 64 x := by
  rw [cnt_count]
  have key : ∀ n, n ≤ 64 → C w (64 * i + n) = C w (64 * i) + (List.range n).countP fun j => x.testBit j := by
    intro n
    induction n with
    | zero => intro _; rfl
    | succ n ih =>
      intro hn
      rw [← Nat.add_assoc, C_succ, ih (by omega), List.range_succ, List.countP_append, bitAt_in h (by omega)]
      simp [List.countP_cons, Nat.add_assoc]
  have := key 64 (Nat.le_refl _)
  rw [← this]
  rfl
theorem C_more {w : List Int} {n : Nat} (h : ∀ p, n ≤ p → bitAt w p = false) : ∀ d, C w (n + d) = C w n
  | 0 => rfl
  | d + 1 => by rw [← Nat.add_assoc, C_succ, C_more h d, h _ (by omega)]; simp
theorem len_loop {s : Xs} (h : WF s) : ∀ (fuel i : Nat), i ≤ s.w.length → s.w.length < fuel + i → s54_l1 fuel (C s.w (64 * i) : Int) (s.w.length : Int) i s.n s.w = some ((C s.w (64 * s.w.length) : Int), ((s.n, ()), s.w)) := by
  intro fuel
  induction fuel with
  | zero => intro i h1 h2; omega
  | succ fuel ih =>
    intro i h1 h2
    have hlen := h.len
    have hhi := h.hi
    show s54_l1B (s54_l1 fuel) (C s.w (64 * i) : Int) (s.w.length : Int) i s.n s.w = _
    unfold s54_l1B
    by_cases hi : i < s.w.length
    · rw [if_pos (by omega), if_pos ⟨by omega, by omega⟩]
      obtain ⟨x, hx, hlt⟩ := h.at hi
      rw [getI_of hx, Option.bind_some, ones_ok hlt, Option.bind_some]
      have e1 : IntKind.i64.wrap ((i : Int) + 1) = ((i + 1 : Nat) : Int) := by rw [i64_in _ (by omega)]; omega
      have hc := C_le s.w (64 * i)
      have hk := cnt_le 64 x
      have e2 : IntKind.i64.wrap ((C s.w (64 * i) : Int) + (cnt 64 x : Int)) = (C s.w (64 * (i + 1)) : Int) := by rw [i64_in _ (by omega), C_word hx]; omega
      rw [e1, e2]
      exact ih (i + 1) (by omega) (by omega)
    · rw [if_neg (by omega)]
      have : i = s.w.length := by omega
      rw [this]
/-- How many are in it. -/
def card (s : Xs) : Nat := C s.w s.n.toNat
theorem card_le {s : Xs} (h : WF s) : (card s : Int) ≤ s.n := by
  have := C_le s.w s.n.toNat
  have := h.lo
  unfold card; omega
theorem len_ok {s : Xs} (h : WF s) : s54 s.n s.w = some ((card s : Int), ((s.n, ()), s.w)) := by
  unfold s54 s54F
  rw [none_ok h]
  simp only [Option.bind_some]
  rw [if_neg (by decide)]
  have hlen := h.len
  have hhi := h.hi
  have hlo := h.lo
  have := len_loop h FUEL 0 (by omega) (by unfold FUEL; omega)
  have e0 : C s.w (64 * 0) = 0 := rfl
  rw [e0] at this
  have e9 : s54_l1 FUEL 0 (s.w.length : Int) 0 s.n s.w = some ((C s.w (64 * s.w.length) : Int), ((s.n, ()), s.w)) := by
    generalize FUEL = F at this ⊢
    exact this
  rw [e9]
  congr 3
  unfold card
  have e := C_more (w := s.w) (n := s.n.toNat) (fun p hp => h.top p (by omega)) (64 * s.w.length - s.n.toNat)
  rw [← e]
  congr 1
  omega
theorem not_card {s u : Xs} (h : WF s) (hn : u.n = s.n) (hb : ∀ p : Nat, (p : Int) < s.n → bitAt u.w p = !bitAt s.w p) : (card u : Int) + card s = s.n := by
  have hlo := h.lo
  have key : ∀ p : Nat, (p : Int) ≤ s.n → C u.w p + C s.w p = p := by
    intro p
    induction p with
    | zero => intro _; rfl
    | succ p ih =>
      intro hp
      have := ih (by omega)
      rw [C_succ, C_succ, hb p (by omega)]
      cases bitAt s.w p <;> simp <;> omega
  have := key s.n.toNat (by omega)
  unfold card
  rw [hn]
  omega
/-- Sets with the same pages are the same. -/
theorem WF.ext {s t : Xs} (hs : WF s) (ht : WF t) (hn : s.n = t.n) (hb : ∀ p : Nat, (p : Int) < s.n → bitAt s.w p = bitAt t.w p) : s.w = t.w := by
  have l1 := hs.len
  have l2 := ht.len
  apply List.ext_getElem?
  intro i
  by_cases hi : i < s.w.length
  · obtain ⟨x, x1, x2⟩ := hs.at hi
    obtain ⟨y, y1, y2⟩ := ht.at (i := i) (by omega)
    rw [x1, y1]
    congr 2
    apply Nat.eq_of_testBit_eq
    intro j
    by_cases hj : j < 64
    · rw [← bitAt_in x1 hj, ← bitAt_in y1 hj]
      by_cases hp : ((64 * i + j : Nat) : Int) < s.n
      · exact hb _ hp
      · rw [hs.top _ (by omega), ht.top _ (by omega)]
    · have a : x.testBit j = false := Nat.testBit_lt_two_pow (Nat.lt_of_lt_of_le (show x < 2 ^ 64 by omega) (Nat.pow_le_pow_right (by decide) (by omega)))
      have b : y.testBit j = false := Nat.testBit_lt_two_pow (Nat.lt_of_lt_of_le (show y < 2 ^ 64 by omega) (Nat.pow_le_pow_right (by decide) (by omega)))
      rw [a, b]
  · rw [List.getElem?_eq_none (by omega), List.getElem?_eq_none (by omega)]
/-! ### A set, told by what is in it -/
/-- A number by its bits. -/
def wordOf (f : Nat → Bool) : Nat → Nat
  | 0 => 0
  | k + 1 => wordOf f k ||| (if f k = true then 2 ^ k else 0)
theorem wordOf_bit (f : Nat → Bool) : ∀ k j, (wordOf f k).testBit j = (decide (j < k) && f j)
  | 0, j => by simp [wordOf]
  | k + 1, j => by
    unfold wordOf
    rw [Nat.testBit_or, wordOf_bit f k j]
    by_cases hj : j = k
    · subst hj
      cases hf : f j <;> simp [Nat.testBit_two_pow]
    · by_cases h2 : j < k
      · cases hf : f k <;> simp [h2, Nat.testBit_two_pow, show k ≠ j by omega, show j < k + 1 by omega]
      · cases hf : f k <;> simp [h2, Nat.testBit_two_pow, show k ≠ j by omega, show ¬ j < k + 1 by omega]
theorem wordOf_lt (f : Nat → Bool) : ∀ k, wordOf f k < 2 ^ k
  | 0 => by simp [wordOf]
  | k + 1 => by
    unfold wordOf
    have := wordOf_lt f k
    have h2 : (2 : Nat) ^ k < 2 ^ (k + 1) := Nat.pow_lt_pow_right (by decide) (by omega)
    refine Nat.or_lt_two_pow (by omega) ?_
    split
    · exact h2
    · exact Nat.two_pow_pos _
/-- The words of a set of n pages with those of f. -/
def Wd (n : Nat) (f : Nat → Bool) : List Int := (List.range ((n + 63) / 64)).map fun i => ((wordOf (fun j => decide (64 * i + j < n) && f (64 * i + j)) 64 : Nat) : Int)
theorem Wd_len (n : Nat) (f : Nat → Bool) : (Wd n f).length = (n + 63) / 64 := by unfold Wd; simp
theorem Wd_bit (n : Nat) (f : Nat → Bool) (p : Nat) : bitAt (Wd n f) p = (decide (p < n) && f p) := by
  by_cases h : p / 64 < (n + 63) / 64
  · have e : (Wd n f)[p / 64]? = some ((wordOf (fun j => decide (64 * (p / 64) + j < n) && f (64 * (p / 64) + j)) 64 : Nat) : Int) := by
      unfold Wd
      rw [List.getElem?_map, List.getElem?_range h]
      rfl
    have := bitAt_in (j := p % 64) e (by omega)
    rw [show 64 * (p / 64) + p % 64 = p by omega] at this
    rw [this, wordOf_bit, decide_eq_true (by omega), Bool.true_and, show 64 * (p / 64) + p % 64 = p by omega]
  · rw [bitAt_out (by rw [Wd_len]; omega), decide_eq_false (by omega)]; rfl
theorem Wd_WF {n : Nat} (f : Nat → Bool) (h0 : 1 ≤ n) (h1 : n ≤ 2048) : WF ⟨(n : Int), Wd n f⟩ := by
  refine ⟨by simp only; omega, by simp only; omega, by simp only [Wd_len]; omega, fun x hx => ?_, fun p hp => ?_⟩
  · obtain ⟨i, _, rfl⟩ := List.mem_map.1 hx
    have := wordOf_lt (fun j => decide (64 * i + j < n) && f (64 * i + j)) 64
    unfold W64; omega
  · simp only at hp ⊢
    rw [Wd_bit, decide_eq_false (by omega)]; rfl
theorem Wd_of {s : Xs} (h : WF s) {n : Nat} (hn : s.n = n) {f : Nat → Bool} (hb : ∀ p : Nat, p < n → bitAt s.w p = f p) : s.w = Wd n f := by
  have h0 := h.lo
  have h1 := h.hi
  refine WF.ext h (Wd_WF f (n := n) (by omega) (by omega)) hn fun p hp => ?_
  rw [Wd_bit, decide_eq_true (by omega), hb p (by omega)]; rfl
theorem Wd_congr {n : Nat} {f g : Nat → Bool} (h : ∀ p, p < n → f p = g p) : Wd n f = Wd n g := by
  unfold Wd
  apply List.map_congr_left
  intro i _
  have : (fun j => decide (64 * i + j < n) && f (64 * i + j)) = (fun j => decide (64 * i + j < n) && g (64 * i + j)) := by
    funext j
    by_cases hj : 64 * i + j < n
    · rw [h _ hj]
    · rw [decide_eq_false hj]; rfl
  rw [this]
def upd (f : Nat → Bool) (p : Nat) (b : Bool) : Nat → Bool := fun q => if q = p then b else f q
theorem In_Wd {n : Nat} {f : Nat → Bool} {p : Int} : In ⟨(n : Int), Wd n f⟩ p ↔ 0 ≤ p ∧ p < n ∧ f p.toNat = true := by
  unfold In
  simp only [Wd_bit]
  constructor
  · rintro ⟨a, b, c⟩
    rw [decide_eq_true (by omega)] at c
    exact ⟨a, b, by simpa using c⟩
  · rintro ⟨a, b, c⟩
    rw [decide_eq_true (by omega), c]
    exact ⟨a, b, rfl⟩
section
variable {n : Nat} (f : Nat → Bool) (h0 : 1 ≤ n) (h1 : n ≤ 2048)
include h0 h1
theorem has_eq (p : Int) : s56 p n (Wd n f) = some (decide (0 ≤ p ∧ p < n ∧ f p.toNat = true), (((n : Int), ()), Wd n f)) := by
  have := has_ok (Wd_WF f h0 h1) p
  rw [this]
  congr 2
  rw [decide_eq_decide]
  exact In_Wd
theorem has_at {p : Nat} (hp : p < n) : s56 p n (Wd n f) = some (f p, (((n : Int), ()), Wd n f)) := by
  rw [has_eq f h0 h1]
  congr 2
  cases hf : f p
  · rw [decide_eq_false]; intro ⟨_, _, h⟩; rw [Int.toNat_natCast, hf] at h; cases h
  · rw [decide_eq_true]; exact ⟨by omega, by omega, by rw [Int.toNat_natCast, hf]⟩
theorem add_at {p : Nat} (hp : p < n) : s41 p n (Wd n f) = some (if f p = true then 70 else 0, (((n : Int), ()), Wd n (upd f p true))) := by
  have h := Wd_WF f h0 h1
  have := add_ok h p
  rw [this, if_pos ⟨by omega, by simp only; omega⟩]
  have hi : In ⟨(n : Int), Wd n f⟩ p ↔ f p = true := by rw [In_Wd, Int.toNat_natCast]; exact ⟨fun a => a.2.2, fun a => ⟨by omega, by omega, a⟩⟩
  by_cases hf : f p = true
  · rw [if_pos (hi.2 hf), if_pos hf]
    congr 3
    refine Wd_congr fun q _ => ?_
    unfold upd
    by_cases hq : q = p
    · rw [if_pos hq, hq, hf]
    · rw [if_neg hq]
  · rw [if_neg (fun a => hf (hi.1 a)), if_neg hf]
    congr 3
    refine Wd_of (put_WF h (by omega) (by simp only; omega)) rfl fun q hq => ?_
    rw [put_bit h (by omega) (by simp only; omega), Wd_bit, decide_eq_true hq, Int.toNat_natCast]
    unfold upd
    by_cases hq : q = p
    · rw [if_pos hq, decide_eq_true hq]; simp
    · rw [if_neg hq, decide_eq_false hq]; simp
theorem drop_at {p : Nat} (hp : p < n) : s48 p n (Wd n f) = some (if f p = true then 0 else 4, (((n : Int), ()), Wd n (upd f p false))) := by
  have h := Wd_WF f h0 h1
  have := drop_ok h p
  rw [this, if_pos ⟨by omega, by simp only; omega⟩]
  have hi : In ⟨(n : Int), Wd n f⟩ p ↔ f p = true := by rw [In_Wd, Int.toNat_natCast]; exact ⟨fun a => a.2.2, fun a => ⟨by omega, by omega, a⟩⟩
  by_cases hf : f p = true
  · rw [if_pos (hi.2 hf), if_pos hf]
    congr 3
    refine Wd_of (cut_WF h (by omega) (by simp only; omega)) rfl fun q hq => ?_
    rw [cut_bit h (by omega) (by simp only; omega), Wd_bit, decide_eq_true hq, Int.toNat_natCast]
    unfold upd
    by_cases hq : q = p
    · rw [if_pos hq, decide_eq_true hq]; simp
    · rw [if_neg hq, decide_eq_false hq]; simp
  · rw [if_neg (fun a => hf (hi.1 a)), if_neg hf]
    congr 3
    refine Wd_congr fun q _ => ?_
    unfold upd
    by_cases hq : q = p
    · rw [if_pos hq, hq]; cases h : f p with
      | true => exact absurd h hf
      | false => rfl
    · rw [if_neg hq]
theorem clone_eq : s65_v2 n (Wd n f) = some ((), (((n : Int), ()), Wd n f, ((n : Int), ()), Wd n f)) := clone_ok (Wd_WF f h0 h1)
theorem not_eq : s42 n (Wd n f) = some ((), (((n : Int), ()), Wd n f, ((n : Int), ()), Wd n (fun p => !f p))) := by
  obtain ⟨u, e, hu, hn, hb⟩ := not_ok (Wd_WF f h0 h1)
  have : u.w = Wd n (fun p => !f p) := Wd_of hu hn fun p hp => by
    rw [hb p (by simp only; omega)]
    simp only [Wd_bit]
    rw [decide_eq_true hp, Bool.true_and]
  rw [← this]
  exact e
theorem new_eq : s40_v2 n = some (((), ()), (((n : Int), ()), Wd n (fun _ => false))) := by
  obtain ⟨e, hw⟩ := new_ok (n := n) (by omega) (by omega)
  rw [e]
  congr 3
  refine Wd_of hw rfl fun p _ => ?_
  unfold bitAt
  rw [List.getD_eq_getElem?_getD, List.getElem?_replicate]
  split <;> simp
theorem size_eq (w : List Int) : s50 n w = some ((n : Int), (((n : Int), ()), w)) := by
  unfold s50 s50F s72 s72F
  simp only [Option.bind_some]
  rw [if_neg (by simp; omega)]
theorem len_eq : s54 n (Wd n f) = some ((((List.range n).countP f : Nat) : Int), (((n : Int), ()), Wd n f)) := by
  have := len_ok (Wd_WF f h0 h1)
  rw [this]
  congr 3
  unfold card C
  simp only [Int.toNat_natCast]
  refine List.countP_congr fun p hp => ?_
  rw [Wd_bit, decide_eq_true (List.mem_range.1 hp), Bool.true_and]
/-- The first page of f from one on. -/
def Fst (n : Nat) (f : Nat → Bool) (p : Int) (r : Int) : Prop := (r = -1 ∧ ∀ q : Nat, p ≤ q → q < n → f q = false) ∨ ∃ q : Nat, r = q ∧ q < n ∧ p ≤ q ∧ f q = true ∧ ∀ q' : Nat, p ≤ q' → q' < q → f q' = false
theorem first_eq (p : Int) (hp : p ≤ 9223372036854775807) : ∃ r, s71 p n (Wd n f) = some (r, (((n : Int), ()), Wd n f)) ∧ Fst n f p r := by
  obtain ⟨r, e, h⟩ := first_ok (Wd_WF f h0 h1) p hp
  refine ⟨r, e, ?_⟩
  have no : ∀ q : Nat, q < n → ¬ In ⟨(n : Int), Wd n f⟩ q → f q = false := fun q hq hn => by
    cases hf : f q
    · rfl
    · exact absurd (In_Wd.2 ⟨by omega, by omega, by rw [Int.toNat_natCast, hf]⟩) hn
  rcases h with ⟨e, h⟩ | ⟨h2, h3, h4⟩
  · exact .inl ⟨e, fun q hq hlt => no q hlt (h q hq)⟩
  · have h5 := In_Wd.1 h2
    exact .inr ⟨r.toNat, by omega, by omega, by omega, h5.2.2, fun q' a b => no q' (by omega) (h4 q' a (by omega))⟩
end
end Go.Proofs.YtofhmhbffdoiaaaDoor
