/- Sets of pages, plain laws, part 7: all pages of a set, as they are gone through. -/
import Derived.Test.YtofhmhbffdoiaaaDoorSF
namespace Go.Proofs.YtofhmhbffdoiaaaDoor
open Go Go.SX Go.VX
set_option maxRecDepth 100000
set_option linter.unusedVariables false
set_option linter.unusedSimpArgs false
/-- What is handed to yield, one behind the other. -/
def trl {V D : Type} (d : D) : List V → Tr V D
  | [] => .done d
  | v :: l => .yield v d (trl d l)
/-- The pages of f from one on. -/
def pgs (n : Nat) (f : Nat → Bool) (p : Nat) : List Nat := (List.range' p (n - p)).filter f
theorem mem_pgs {n : Nat} {f : Nat → Bool} {p q : Nat} : q ∈ pgs n f p ↔ p ≤ q ∧ q < n ∧ f q = true := by
  unfold pgs
  rw [List.mem_filter, List.mem_range'_1]
  constructor
  · rintro ⟨⟨a, b⟩, c⟩; exact ⟨a, by omega, c⟩
  · rintro ⟨a, b, c⟩; exact ⟨⟨a, by omega⟩, c⟩
theorem pgs_nil {n : Nat} {f : Nat → Bool} {p : Nat} (h : ∀ q : Nat, p ≤ q → q < n → f q = false) : pgs n f p = [] := by
  rw [List.eq_nil_iff_forall_not_mem]
  intro q hq
  obtain ⟨a, b, c⟩ := mem_pgs.1 hq
  rw [h q a b] at c; cases c
theorem pgs_cons {n : Nat} {f : Nat → Bool} {p q : Nat} (hq : q < n) (hp : p ≤ q) (hf : f q = true) (h : ∀ q' : Nat, p ≤ q' → q' < q → f q' = false) : pgs n f p = q :: pgs n f (q + 1) := by
  unfold pgs
  have e : List.range' p (n - p) = List.range' p (q - p) ++ q :: List.range' (q + 1) (n - (q + 1)) := by
    have e1 := List.range'_append_1 (s := p) (m := q - p) (n := n - q)
    rw [show p + (q - p) = q by omega, show q - p + (n - q) = n - p by omega] at e1
    rw [← e1, show n - q = (n - (q + 1)) + 1 by omega, List.range'_succ]
  rw [e, List.filter_append, List.filter_cons, if_pos hf]
  have : (List.range' p (q - p)).filter f = [] := by
    rw [List.filter_eq_nil_iff]
    intro a ha
    rw [List.mem_range'_1] at ha
    rw [h a ha.1 (by omega)]; decide
  rw [this, List.nil_append]
theorem pgs_zero (n : Nat) (f : Nat → Bool) : pgs n f 0 = (List.range n).filter f := by
  unfold pgs
  rw [Nat.sub_zero, List.range_eq_range']
theorem pgs_len {n : Nat} {f : Nat → Bool} {p : Nat} : (pgs n f p).length ≤ n := by
  unfold pgs
  have := List.length_filter_le f (List.range' p (n - p))
  rw [List.length_range'] at this
  omega
def castL (l : List Nat) : List Int := l.map fun (q : Nat) => (q : Int)
section
variable {n : Nat} (f : Nat → Bool) (h0 : 1 ≤ n) (h1 : n ≤ 2048)
include h0 h1
theorem all_loop : ∀ (m p : Nat) (r : Int), n - p < m → Fst n f p r → s70_l1 m r n (Wd n f) = some (trl ((), ((n : Int), ()), Wd n f) (castL (pgs n f p))) := by
  intro m
  induction m with
  | zero => intro p r h; omega
  | succ m ih =>
    intro p r hm hr
    show s70_l1B (s70_j1 (s70_l1 m)) r n (Wd n f) = _
    unfold s70_l1B
    rcases hr with ⟨rfl, h⟩ | ⟨q, rfl, hq, hp, hf, h⟩
    · rw [if_neg (by decide), pgs_nil (fun q a b => h q (by omega) b)]
      rfl
    · rw [if_pos (by omega), pgs_cons hq (by omega) hf (fun q' a b => h q' (by omega) b)]
      obtain ⟨r', e, hr'⟩ := first_eq f h0 h1 ((q : Int) + 1) (by omega)
      have e1 : s70_j1 (s70_l1 m) (q : Int) false n (Wd n f) = some (trl ((), ((n : Int), ()), Wd n f) (castL (pgs n f (q + 1)))) := by
        unfold s70_j1 s70_j1F
        rw [if_neg (by decide), i64_in _ (by omega), e]
        simp only [Option.bind_some]
        exact ih (q + 1) r' (by omega) (by rw [show ((q + 1 : Nat) : Int) = (q : Int) + 1 by omega]; exact hr')
      have e2 : s70_j1 (s70_l1 m) (q : Int) true n (Wd n f) = some (.done ((), ((n : Int), ()), Wd n f)) := rfl
      rw [e1, e2]
      rfl
theorem all_eq : s70 n (Wd n f) = some (trl ((), ((n : Int), ()), Wd n f) (castL (pgs n f 0))) := by
  unfold s70 s70F
  obtain ⟨r, e, hr⟩ := first_eq f h0 h1 0 (by omega)
  rw [e]
  simp only [Option.bind_some]
  have := all_loop f h0 h1 FUEL 0 r (by unfold FUEL; omega) hr
  generalize FUEL = F at this ⊢
  exact this
end
/-! ### Runs -/
def AllIn (n : Nat) (f : Nat → Bool) (q m : Int) : Prop := 0 ≤ q ∧ q + m ≤ n ∧ ∀ k : Nat, q ≤ k → (k : Int) < q + m → f k = true
/-- The first row of m pages. -/
def RunAt (n : Nat) (f : Nat → Bool) (m r : Int) : Prop := (r = -1 ∧ ∀ q : Int, ¬ AllIn n f q m) ∨ (AllIn n f r m ∧ ∀ q : Int, q < r → ¬ AllIn n f q m)
/-- A trace of runs from the pages from p on, as row goes through them. -/
inductive Runs (n : Nat) (f : Nat → Bool) (D : Unit × (Int × Unit) × List Int) : Nat → Tr (Int × Int) (Unit × (Int × Unit) × List Int) → Prop
  | done {p : Nat} (h : ∀ q : Nat, p ≤ q → q < n → f q = false) : Runs n f D p (.done D)
  | yield {p q e : Nat} {t : Tr (Int × Int) (Unit × (Int × Unit) × List Int)} (hp : p ≤ q) (hqe : q < e) (he : e ≤ n) (h1 : ∀ q' : Nat, p ≤ q' → q' < q → f q' = false) (h2 : ∀ q' : Nat, q ≤ q' → q' < e → f q' = true) (h3 : e < n → f e = false) (ht : Runs n f D e t) : Runs n f D p (.yield ((q : Int), (e : Int) - (q : Int)) D t)
section
variable {n : Nat} (f : Nat → Bool) (h0 : 1 ≤ n) (h1 : n ≤ 2048)
include h0 h1
theorem runs_loop : ∀ (m p : Nat) (r : Int), n - p < m → Fst n f p r → ∃ t, s76_l1 m r n (Wd n f) n (Wd n (fun p => !f p)) = some t ∧ Runs n f ((), ((n : Int), ()), Wd n f) p t := by
  intro m
  induction m with
  | zero => intro p r h; omega
  | succ m ih =>
    intro p r hm hr
    show ∃ t, s76_l1B (s76_j1 (s76_l1 m)) r n (Wd n f) n (Wd n (fun p => !f p)) = some t ∧ _
    unfold s76_l1B
    rcases hr with ⟨rfl, h⟩ | ⟨q, rfl, hq, hp, hf, h⟩
    · rw [if_neg (by decide)]
      exact ⟨_, rfl, .done fun q a b => h q (by omega) b⟩
    · rw [if_pos (by omega)]
      obtain ⟨r', e, hr'⟩ := first_eq (fun p => !f p) h0 h1 (q : Int) (by omega)
      rw [e]
      simp only [Option.bind_some]
      -- the end of the run
      obtain ⟨z, hz, hqz, hzn, hin, hout⟩ : ∃ z : Nat, (if r' < 0 then s76_j1 (s76_l1 m) (q : Int) (n : Int) (n : Int) (Wd n f) (n : Int) (Wd n (fun p => !f p)) else s76_j1 (s76_l1 m) (q : Int) r' (n : Int) (Wd n f) (n : Int) (Wd n (fun p => !f p))) = s76_j1 (s76_l1 m) (q : Int) (z : Int) (n : Int) (Wd n f) (n : Int) (Wd n (fun p => !f p)) ∧ q < z ∧ z ≤ n ∧ (∀ q' : Nat, q ≤ q' → q' < z → f q' = true) ∧ (z < n → f z = false) := by
        rcases hr' with ⟨rfl, h2⟩ | ⟨z, rfl, hz1, hz2, hz3, hz4⟩
        · refine ⟨n, by rw [if_pos (by decide)], hq, Nat.le_refl _, fun q' a b => ?_, fun h => by omega⟩
          have := h2 q' (by omega) b
          simpa using this
        · have hne : q ≠ z := by
            rintro rfl
            have h9 : (!f q) = true := hz3
            rw [hf] at h9; cases h9
          refine ⟨z, by rw [if_neg (by omega)], by omega, by omega, fun q' a b => ?_, fun _ => by simpa using hz3⟩
          have := hz4 q' (by omega) b
          simpa using this
      rw [hz]
      obtain ⟨r2, e2, hr2⟩ := first_eq f h0 h1 (z : Int) (by omega)
      obtain ⟨t, ht, hR⟩ := ih z r2 (by omega) hr2
      unfold s76_j1 s76_j1F
      have j2 : s76_j2 (s76_l1 m) (z : Int) false n (Wd n f) n (Wd n (fun p => !f p)) = some t := by
        unfold s76_j2 s76_j2F
        rw [if_neg (by decide), e2]
        simp only [Option.bind_some]
        exact ht
      have j1 : s76_j2 (s76_l1 m) (z : Int) true n (Wd n f) n (Wd n (fun p => !f p)) = some (.done ((), ((n : Int), ()), Wd n f)) := rfl
      rw [j1, j2, i64_in _ (by omega)]
      exact ⟨_, rfl, .yield (by omega) hqz hzn (fun q' a b => h q' (by omega) b) hin hout hR⟩
theorem runs_eq : ∃ t, s76 n (Wd n f) = some t ∧ Runs n f ((), ((n : Int), ()), Wd n f) 0 t := by
  unfold s76 s76F
  rw [not_eq f h0 h1]
  simp only [Option.bind_some]
  obtain ⟨r, e, hr⟩ := first_eq f h0 h1 0 (by omega)
  rw [e]
  simp only [Option.bind_some]
  have := runs_loop f h0 h1 FUEL 0 r (by unfold FUEL; omega) hr
  generalize FUEL = F at this ⊢
  exact this
end
end Go.Proofs.YtofhmhbffdoiaaaDoor
