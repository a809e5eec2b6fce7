/- FreemapDoes, plain laws, part 1: the document's map, told by what each page is. -/
import Derived.Test.YtofhmhbffdoiaaaDoorKA
namespace Go.Proofs.YtofhmhbffdoiaaaDoor
open Go Go.SX Go.VX
set_option maxRecDepth 100000
set_option linter.unusedVariables false
set_option linter.unusedSimpArgs false
/-- What each of n pages is. -/
def Pl (n : Nat) (c : Nat → Int) : List Int := (List.range n).map c
theorem Pl_len (n : Nat) (c : Nat → Int) : (Pl n c).length = n := by unfold Pl; simp
theorem Pl_get {n : Nat} {c : Nat → Int} {q : Nat} (h : q < n) : (Pl n c)[q]? = some (c q) := by
  unfold Pl
  rw [List.getElem?_map, List.getElem?_range h]
  rfl
theorem Pl_congr {n : Nat} {c d : Nat → Int} (h : ∀ q, q < n → c q = d q) : Pl n c = Pl n d := by
  unfold Pl
  apply List.map_congr_left
  intro q hq
  exact h q (List.mem_range.1 hq)
def updc (c : Nat → Int) (q : Nat) (v : Int) : Nat → Int := fun z => if z = q then v else c z
theorem Pl_set {n : Nat} {c : Nat → Int} {q : Nat} (h : q < n) (v : Int) : (Pl n c).set q v = Pl n (updc c q v) := by
  apply List.ext_getElem?
  intro i
  by_cases hi : i < n
  · rw [Pl_get hi, List.getElem?_set, Pl_len, Pl_get hi]
    unfold updc
    by_cases hq : q = i
    · rw [if_pos hq, if_pos h, if_pos hq.symm]
    · rw [if_neg hq, if_neg (fun e => hq e.symm)]
  · rw [List.getElem?_eq_none (by rw [List.length_set, Pl_len]; omega), List.getElem?_eq_none (by rw [Pl_len]; omega)]
theorem Pl_getI {n : Nat} {c : Nat → Int} {q : Nat} (h : q < n) : getI (Pl n c) (q : Int) = some (c q) := by rw [getI_nat, Pl_get h]
theorem Pl_setI {n : Nat} {c : Nat → Int} {q : Nat} (h : q < n) (v : Int) : setI (Pl n c) (q : Int) v = some (Pl n (updc c q v)) := by
  rw [setI_of (by omega) (by rw [Pl_len]; omega), Int.toNat_natCast, Pl_set h]
section
variable {n : Nat} (c : Nat → Int)
theorem ref_has (p : Int) : s63_v2 p (Pl n c) = some (decide (0 ≤ p ∧ p < n ∧ (c p.toNat = 1 ∨ c p.toNat = 2)), ((), Pl n c)) := by
  unfold s63_v2 s63_v2F
  rw [Pl_len]
  by_cases h : p ≥ 0
  · rw [if_pos h]
    by_cases h2 : p < n
    · obtain ⟨q, rfl⟩ : ∃ q : Nat, p = q := ⟨p.toNat, by omega⟩
      rw [if_pos h2, if_pos ⟨by omega, h2⟩, Pl_getI (by omega), Option.bind_some]
      by_cases hc : c q = 1
      · rw [if_pos hc, decide_eq_true ⟨by omega, by omega, .inl (by rw [Int.toNat_natCast]; exact hc)⟩]
      · rw [if_neg hc, if_pos ⟨by omega, h2⟩, Option.bind_some]
        congr 2
        rw [decide_eq_decide, Int.toNat_natCast]
        exact ⟨fun h => ⟨by omega, by omega, .inr h⟩, fun h => h.2.2.resolve_left hc⟩
    · rw [if_neg h2, decide_eq_false (fun h => h2 h.2.1)]
  · rw [if_neg h, decide_eq_false (fun h' => h h'.1)]
theorem ref_mine (p : Int) : s64 p (Pl n c) = some (decide (0 ≤ p ∧ p < n ∧ c p.toNat = 2), ((), Pl n c)) := by
  unfold s64 s64F
  rw [Pl_len]
  by_cases h : p ≥ 0
  · rw [if_pos h]
    by_cases h2 : p < n
    · obtain ⟨q, rfl⟩ : ∃ q : Nat, p = q := ⟨p.toNat, by omega⟩
      rw [if_pos h2, if_pos ⟨by omega, h2⟩, Pl_getI (by omega), Option.bind_some]
      congr 2
      rw [decide_eq_decide, Int.toNat_natCast]
      exact ⟨fun h => ⟨by omega, by omega, h⟩, fun h => h.2.2⟩
    · rw [if_neg h2, decide_eq_false (fun h => h2 h.2.1)]
  · rw [if_neg h, decide_eq_false (fun h' => h h'.1)]
theorem ref_free (p : Int) : s59_v2 p (Pl n c) = some (if 0 ≤ p ∧ p < n ∧ (c p.toNat = 1 ∨ c p.toNat = 2) then (0, ((), Pl n (updc c p.toNat (if c p.toNat = 2 then 0 else 3)))) else (4, ((), Pl n c))) := by
  unfold s59_v2 s59_v2F
  rw [ref_has c]
  simp only [Option.bind_some]
  by_cases h : 0 ≤ p ∧ p < n ∧ (c p.toNat = 1 ∨ c p.toNat = 2)
  · rw [decide_eq_true h, if_neg (by simp), if_pos h]
    obtain ⟨a, b, _⟩ := h
    obtain ⟨q, rfl⟩ : ∃ q : Nat, p = q := ⟨p.toNat, by omega⟩
    rw [Pl_len, if_pos ⟨a, b⟩, Pl_getI (by omega), Option.bind_some, Int.toNat_natCast]
    by_cases hc : c q = 2
    · rw [if_pos hc, if_pos ⟨a, b⟩, Pl_setI (by omega), Option.bind_some, if_pos hc]; rfl
    · rw [if_neg hc, if_pos ⟨a, b⟩, Pl_setI (by omega), Option.bind_some, if_neg hc]; rfl
  · rw [decide_eq_false h, if_pos (by simp), if_neg h]
/-- Each page in turn is told anew. -/
def comc (c : Nat → Int) (q : Nat) : Int := if c q = 2 then 1 else if c q = 3 then 0 else c q
def aboc (c : Nat → Int) (q : Nat) : Int := if c q = 2 then 0 else if c q = 3 then 1 else c q
def upto (c d : Nat → Int) (i : Nat) : Nat → Int := fun q => if q < i then d q else c q
theorem upto_set (d : Nat → Int) {i : Nat} {v : Int} (hv : v = d i) : Pl n (updc (upto c d i) i v) = Pl n (upto c d (i + 1)) := Pl_congr fun q _ => by
  unfold updc upto
  by_cases hq : q = i
  · rw [if_pos hq, if_pos (by omega), hq, hv]
  · rw [if_neg hq]
    by_cases h2 : q < i
    · rw [if_pos h2, if_pos (by omega)]
    · rw [if_neg h2, if_neg (by omega)]
theorem upto_same (d : Nat → Int) {i : Nat} (hv : c i = d i) : Pl n (upto c d i) = Pl n (upto c d (i + 1)) := Pl_congr fun q _ => by
  unfold upto
  by_cases hq : q = i
  · rw [if_neg (by omega), if_pos (by omega), hq, hv]
  · by_cases h2 : q < i
    · rw [if_pos h2, if_pos (by omega)]
    · rw [if_neg h2, if_neg (by omega)]
theorem upto_at (d : Nat → Int) (i : Nat) : upto c d i i = c i := by unfold upto; rw [if_neg (by omega)]
end
section
variable {n : Nat} (h1 : n ≤ 2048) (c : Nat → Int)
include h1
/-- Pages in a row are new. -/
def newc (c : Nat → Int) (p k : Nat) : Nat → Int := fun q => if p ≤ q ∧ q < p + k then 2 else c q
theorem ref_set {p k : Nat} (hpk : p + k ≤ n) : ∀ (fuel i : Nat), i ≤ k → k - i < fuel → s58_v2_l3 fuel k p ((p + i : Nat) : Int) (Pl n (newc c p i)) = some (((p : Int), 0), ((), Pl n (newc c p k))) := by
  intro fuel
  induction fuel with
  | zero => intro i _ h; omega
  | succ fuel ih =>
    intro i hi hf
    show s58_v2_l3B (s58_v2_l3 fuel) k p ((p + i : Nat) : Int) (Pl n (newc c p i)) = _
    unfold s58_v2_l3B
    rw [i64_in ((p : Int) + k) (by omega)]
    by_cases h : i < k
    · rw [if_pos (by omega), if_pos ⟨by omega, by rw [Pl_len]; omega⟩, Pl_setI (by omega), Option.bind_some, i64_in _ (by omega), show ((p + i : Nat) : Int) + 1 = ((p + (i + 1) : Nat) : Int) by omega]
      have e : Pl n (updc (newc c p i) (p + i) 2) = Pl n (newc c p (i + 1)) := Pl_congr fun q _ => by
        unfold updc newc
        by_cases hq : q = p + i
        · rw [if_pos hq, if_pos (by omega)]
        · rw [if_neg hq]
          by_cases h2 : p ≤ q ∧ q < p + i
          · rw [if_pos h2, if_pos (by omega)]
          · rw [if_neg h2, if_neg (by omega)]
      rw [e]
      exact ih (i + 1) (by omega) (by omega)
    · rw [if_neg (by omega)]
      obtain rfl : i = k := by omega
      rfl
def freeB (c : Nat → Int) (q : Nat) : Bool := decide (c q = 0)
open Classical in
theorem ref_row {p k : Nat} (hk : 1 ≤ k) (hpk : p + k ≤ n) (R : Int → Int → List Int → Option ((Int × Int) × (Unit × List Int))) : ∀ (fuel i : Nat) (b : Bool), i ≤ k → k - i < fuel → (b = true ↔ ∀ q, p ≤ q → q < p + i → c q = 0) →
    s58_v2_l2 R fuel k p b ((p + i : Nat) : Int) (Pl n c) = if (∀ q, p ≤ q → q < p + k → c q = 0) then some (((p : Int), 0), ((), Pl n (newc c p k))) else R k ((p + 1 : Nat) : Int) (Pl n c) := by
  intro fuel
  induction fuel with
  | zero => intro i b _ h; omega
  | succ fuel ih =>
    intro i b hi hf hb
    show s58_v2_l2B (s58_v2_j2 (s58_v2_l2 R fuel)) (s58_v2_l3 FUEL) R k p b ((p + i : Nat) : Int) (Pl n c) = _
    have hset := ref_set h1 c hpk FUEL 0 (by omega) (by unfold FUEL; omega)
    generalize s58_v2_l3 FUEL = Q at hset ⊢
    unfold s58_v2_l2B
    rw [i64_in ((p : Int) + k) (by omega)]
    by_cases h : i < k
    · rw [if_pos (by omega)]
      have step : ∀ b', (b' = true ↔ ∀ q, p ≤ q → q < p + (i + 1) → c q = 0) → s58_v2_j2 (s58_v2_l2 R fuel) k p b' ((p + i : Nat) : Int) (Pl n c) = if (∀ q, p ≤ q → q < p + k → c q = 0) then some (((p : Int), 0), ((), Pl n (newc c p k))) else R k ((p + 1 : Nat) : Int) (Pl n c) := fun b' hb' => by
        unfold s58_v2_j2 s58_v2_j2F
        rw [i64_in _ (by omega), show ((p + i : Nat) : Int) + 1 = ((p + (i + 1) : Nat) : Int) by omega]
        exact ih (i + 1) b' (by omega) (by omega) hb'
      cases hbb : b with
      | true =>
        rw [if_pos rfl, if_pos ⟨by omega, by rw [Pl_len]; omega⟩, Pl_getI (by omega), Option.bind_some]
        refine step _ ?_
        rw [decide_eq_true_iff]
        have hb2 := hb.1 hbb
        constructor
        · intro h0 q a b
          by_cases hq : q < p + i
          · exact hb2 q a hq
          · obtain rfl : q = p + i := by omega
            exact h0
        · intro h0; exact h0 (p + i) (by omega) (by omega)
      | false =>
        rw [if_neg (by decide)]
        refine step _ ⟨fun h => (by cases h), fun h0 => ?_⟩
        have : b = true := hb.2 fun q a b => h0 q a (by omega)
        rw [hbb] at this; exact this
    · rw [if_neg (by omega)]
      obtain rfl : i = k := by omega
      by_cases hall : ∀ q, p ≤ q → q < p + i → c q = 0
      · rw [if_pos (hb.2 hall), if_pos hall]
        rw [Nat.add_zero] at hset
        have e0 : Pl n (newc c p 0) = Pl n c := Pl_congr fun q _ => by unfold newc; rw [if_neg (by omega)]
        rw [e0] at hset
        exact hset
      · rw [if_neg (fun h => hall (hb.1 h)), if_neg hall, i64_in _ (by omega), show (p : Int) + 1 = ((p + 1 : Nat) : Int) by omega]
open Classical in
theorem ref_scan {k : Int} (hk : 1 ≤ k) (hk2 : k ≤ 9223372036854775807) : ∀ (fuel p : Nat), p ≤ n → n - p < fuel → (∀ q : Int, q < p → ¬ AllIn n (freeB c) q k) →
    ∃ r, RunAt n (freeB c) k r ∧ s58_v2_l1 fuel k p (Pl n c) = some (if r < 0 then ((0, 6), ((), Pl n c)) else ((r, 0), ((), Pl n (newc c r.toNat k.toNat)))) := by
  intro fuel
  induction fuel with
  | zero => intro p _ h; omega
  | succ fuel ih =>
    intro p hp hf hq
    have full : ∀ r : Int, s58_v2_j1 (s58_v2_l1 fuel) k p false (Pl n c) = some ((0, 6), ((), Pl n c)) := fun _ => rfl
    have stop : (∀ q : Int, ¬ AllIn n (freeB c) q k) → ∃ r, RunAt n (freeB c) k r ∧ s58_v2_j1 (s58_v2_l1 fuel) k p false (Pl n c) = some (if r < 0 then ((0, 6), ((), Pl n c)) else ((r, 0), ((), Pl n (newc c r.toNat k.toNat)))) := fun h =>
      ⟨-1, .inl ⟨rfl, h⟩, by rw [if_pos (by decide)]; rfl⟩
    have e : s58_v2_l1 (fuel + 1) k p (Pl n c) = s58_v2_l1B (s58_v2_j1 (s58_v2_l1 fuel)) k p (Pl n c) := rfl
    rw [e]
    unfold s58_v2_l1B
    rw [Pl_len]
    by_cases h : p < n
    · rw [if_pos (by omega), i64_in _ (by omega)]
      by_cases hkn : k ≤ (n : Int) - p
      · rw [decide_eq_true hkn]
        obtain ⟨K, rfl⟩ : ∃ K : Nat, k = K := ⟨k.toNat, by omega⟩
        have row := ref_row h1 c (p := p) (k := K) (by omega) (by omega) (s58_v2_l1 fuel) FUEL 0 true (by omega) (by unfold FUEL; omega) ⟨fun _ q a b => (by omega), fun _ => rfl⟩
        have e2 : s58_v2_j1 (s58_v2_l1 fuel) (K : Int) p true (Pl n c) = s58_v2_l2 (s58_v2_l1 fuel) FUEL K p true ((p + 0 : Nat) : Int) (Pl n c) := rfl
        rw [e2, row]
        by_cases hall : ∀ q, p ≤ q → q < p + K → c q = 0
        · rw [if_pos hall]
          refine ⟨p, .inr ⟨⟨by omega, by omega, fun q a b => ?_⟩, hq⟩, ?_⟩
          · unfold freeB; exact decide_eq_true (hall q (by omega) (by omega))
          · rw [if_neg (by omega), Int.toNat_natCast, Int.toNat_natCast]
        · rw [if_neg hall]
          refine ih (p + 1) (by omega) (by omega) fun q hlt hA => ?_
          by_cases hqp : q < p
          · exact hq q hqp hA
          · obtain rfl : q = p := by omega
            exact hall fun z a b => by
              have := hA.2.2 z (by omega) (by omega)
              unfold freeB at this
              exact of_decide_eq_true this
      · rw [decide_eq_false hkn]
        exact stop fun q hA => by
          by_cases hqp : q < p
          · exact hq q hqp hA
          · have := hA.2.1; omega
    · rw [if_neg (by omega)]
      exact stop fun q hA => by
        by_cases hqp : q < p
        · exact hq q hqp hA
        · have := hA.2.1; omega
theorem ref_alloc (k : Int) (hk2 : k ≤ 9223372036854775807) : ∃ r, (1 ≤ k → RunAt n (freeB c) k r) ∧ s58_v2 k (Pl n c) = some (if k < 1 then ((0, 1), ((), Pl n c)) else if r < 0 then ((0, 6), ((), Pl n c)) else ((r, 0), ((), Pl n (newc c r.toNat k.toNat)))) := by
  unfold s58_v2 s58_v2F
  by_cases hk : k < 1
  · exact ⟨0, fun h => by omega, by rw [if_pos hk, if_pos hk]⟩
  · obtain ⟨r, hr, e⟩ := ref_scan h1 c (k := k) (by omega) hk2 FUEL 0 (by omega) (by unfold FUEL; omega) (fun q hq hA => by have := hA.1; omega)
    refine ⟨r, fun _ => hr, ?_⟩
    rw [if_neg hk, if_neg hk]
    generalize FUEL = F at e ⊢
    exact e
theorem ref_commit_loop : ∀ (fuel i : Nat), i ≤ n → n - i < fuel → s60_v2_l1 fuel i (Pl n (upto c (comc c) i)) = some ((), ((), Pl n (comc c))) := by
  intro fuel
  induction fuel with
  | zero => intro i _ h; omega
  | succ fuel ih =>
    intro i hi hf
    show s60_v2_l1B (s60_v2_j1 (s60_v2_l1 fuel)) i (Pl n (upto c (comc c) i)) = _
    unfold s60_v2_l1B
    rw [Pl_len]
    by_cases h : i < n
    · have next : s60_v2_j1 (s60_v2_l1 fuel) i (Pl n (upto c (comc c) (i + 1))) = some ((), ((), Pl n (comc c))) := by
        unfold s60_v2_j1 s60_v2_j1F
        rw [i64_in _ (by omega), show (i : Int) + 1 = ((i + 1 : Nat) : Int) by omega]
        exact ih (i + 1) (by omega) (by omega)
      rw [if_pos (by omega), if_pos ⟨by omega, by omega⟩, Pl_getI h, Option.bind_some, upto_at c]
      by_cases h2 : c i = 2
      · rw [if_pos h2, if_pos ⟨by omega, by omega⟩, Pl_setI h, Option.bind_some, upto_set c _ (by unfold comc; rw [if_pos h2])]
        exact next
      · rw [if_neg h2]
        by_cases h3 : c i = 3
        · rw [if_pos h3, if_pos ⟨by omega, by omega⟩, Pl_setI h, Option.bind_some, upto_set c _ (by unfold comc; rw [if_neg h2, if_pos h3])]
          exact next
        · rw [if_neg h3, upto_same c _ (by unfold comc; rw [if_neg h2, if_neg h3])]
          exact next
    · rw [if_neg (by omega)]
      have : Pl n (upto c (comc c) i) = Pl n (comc c) := Pl_congr fun q hq => by unfold upto; rw [if_pos (by omega)]
      rw [this]
theorem ref_abort_loop : ∀ (fuel i : Nat), i ≤ n → n - i < fuel → s61_v2_l1 fuel i (Pl n (upto c (aboc c) i)) = some ((), ((), Pl n (aboc c))) := by
  intro fuel
  induction fuel with
  | zero => intro i _ h; omega
  | succ fuel ih =>
    intro i hi hf
    show s61_v2_l1B (s61_v2_j1 (s61_v2_l1 fuel)) i (Pl n (upto c (aboc c) i)) = _
    unfold s61_v2_l1B
    rw [Pl_len]
    by_cases h : i < n
    · have next : s61_v2_j1 (s61_v2_l1 fuel) i (Pl n (upto c (aboc c) (i + 1))) = some ((), ((), Pl n (aboc c))) := by
        unfold s61_v2_j1 s61_v2_j1F
        rw [i64_in _ (by omega), show (i : Int) + 1 = ((i + 1 : Nat) : Int) by omega]
        exact ih (i + 1) (by omega) (by omega)
      rw [if_pos (by omega), if_pos ⟨by omega, by omega⟩, Pl_getI h, Option.bind_some, upto_at c]
      by_cases h2 : c i = 2
      · rw [if_pos h2, if_pos ⟨by omega, by omega⟩, Pl_setI h, Option.bind_some, upto_set c _ (by unfold aboc; rw [if_pos h2])]
        exact next
      · rw [if_neg h2]
        by_cases h3 : c i = 3
        · rw [if_pos h3, if_pos ⟨by omega, by omega⟩, Pl_setI h, Option.bind_some, upto_set c _ (by unfold aboc; rw [if_neg h2, if_pos h3])]
          exact next
        · rw [if_neg h3, upto_same c _ (by unfold aboc; rw [if_neg h2, if_neg h3])]
          exact next
    · rw [if_neg (by omega)]
      have : Pl n (upto c (aboc c) i) = Pl n (aboc c) := Pl_congr fun q hq => by unfold upto; rw [if_pos (by omega)]
      rw [this]
theorem ref_commit : s60_v2 (Pl n c) = some ((), ((), Pl n (comc c))) := by
  have := ref_commit_loop h1 c FUEL 0 (by omega) (by unfold FUEL; omega)
  have e : Pl n (upto c (comc c) 0) = Pl n c := Pl_congr fun q _ => by unfold upto; rw [if_neg (by omega)]
  rw [e] at this
  unfold s60_v2 s60_v2F
  generalize FUEL = F at this ⊢
  exact this
theorem ref_abort : s61_v2 (Pl n c) = some ((), ((), Pl n (aboc c))) := by
  have := ref_abort_loop h1 c FUEL 0 (by omega) (by unfold FUEL; omega)
  have e : Pl n (upto c (aboc c) 0) = Pl n c := Pl_congr fun q _ => by unfold upto; rw [if_neg (by omega)]
  rw [e] at this
  unfold s61_v2 s61_v2F
  generalize FUEL = F at this ⊢
  exact this
def isc (c : Nat → Int) (a b : Int) (q : Nat) : Bool := decide (c q = a) || decide (c q = b)
theorem ref_of_loop (a b : Int) : ∀ (fuel i : Nat), i ≤ n → n - i < fuel → s62_v2_l1 fuel a b i (Pl n c) (castL ((List.range i).filter (isc c a b))) = some ((), ((), Pl n c, castL (pgs n (isc c a b) 0))) := by
  intro fuel
  induction fuel with
  | zero => intro i _ h; omega
  | succ fuel ih =>
    intro i hi hf
    show s62_v2_l1B (s62_v2_j1 (s62_v2_l1 fuel)) a b i (Pl n c) (castL ((List.range i).filter (isc c a b))) = _
    unfold s62_v2_l1B
    rw [Pl_len]
    by_cases h : i < n
    · have e5 : (List.range (i + 1)).filter (isc c a b) = (List.range i).filter (isc c a b) ++ if isc c a b i = true then [i] else [] := by
        rw [List.range_succ, List.filter_append]
        cases h : isc c a b i <;> simp [h]
      have step : ∀ t, t = isc c a b i → s62_v2_j1 (s62_v2_l1 fuel) a b i t (Pl n c) (castL ((List.range i).filter (isc c a b))) = some ((), ((), Pl n c, castL (pgs n (isc c a b) 0))) := fun t ht => by
        have := ih (i + 1) (by omega) (by omega)
        rw [e5, ← ht] at this
        have e3 : ∀ l, s62_v2_j2 (s62_v2_l1 fuel) a b i (Pl n c) l = s62_v2_l1 fuel a b ((i + 1 : Nat) : Int) (Pl n c) l := fun l => by
          unfold s62_v2_j2 s62_v2_j2F
          rw [i64_in _ (by omega), show (i : Int) + 1 = ((i + 1 : Nat) : Int) by omega]
        unfold s62_v2_j1 s62_v2_j1F
        cases t with
        | true =>
          rw [if_pos rfl] at this
          have hlen := List.length_filter_le (isc c a b) (List.range i)
          rw [List.length_range] at hlen
          rw [if_pos rfl, appI_ok (by unfold castL; simp; omega), Option.bind_some, e3]
          have e6 : castL ((List.range i).filter (isc c a b)) ++ [(i : Int)] = castL ((List.range i).filter (isc c a b) ++ [i]) := by unfold castL; simp
          rw [e6]
          exact this
        | false =>
          rw [if_neg (by decide), List.append_nil] at this
          rw [if_neg (by decide), e3]
          exact this
      rw [if_pos (by omega), if_pos ⟨by omega, by omega⟩, Pl_getI h, Option.bind_some]
      by_cases ha : c i = a
      · rw [if_pos ha]
        refine step _ ?_
        unfold isc
        rw [decide_eq_true ha]; rfl
      · rw [if_neg ha, if_pos ⟨by omega, by omega⟩, Option.bind_some]
        refine step _ ?_
        unfold isc
        rw [decide_eq_false ha]; rfl
    · rw [if_neg (by omega)]
      obtain rfl : i = n := by omega
      rw [pgs_zero]
theorem ref_of (a b : Int) : s62_v2 a b (Pl n c) = some ((), ((), Pl n c, castL (pgs n (isc c a b) 0))) := by
  have := ref_of_loop h1 c a b FUEL 0 (by omega) (by unfold FUEL; omega)
  unfold s62_v2 s62_v2F
  generalize FUEL = F at this ⊢
  exact this
end
theorem RunAt.one {n : Nat} {f : Nat → Bool} {k r r' : Int} (h : RunAt n f k r) (h' : RunAt n f k r') : r = r' := by
  rcases h with ⟨a, b⟩ | ⟨a, b⟩
  · rcases h' with ⟨a', b'⟩ | ⟨a', b'⟩
    · omega
    · exact absurd a' (b r')
  · rcases h' with ⟨a', b'⟩ | ⟨a', b'⟩
    · exact absurd a (b' r)
    · by_cases h1 : r < r'
      · exact absurd a (b' r h1)
      · by_cases h2 : r' < r
        · exact absurd a' (b r' h2)
        · omega
end Go.Proofs.YtofhmhbffdoiaaaDoor
