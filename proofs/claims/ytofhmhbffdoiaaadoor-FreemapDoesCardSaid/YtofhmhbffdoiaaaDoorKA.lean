/- The free map, plain laws: what holds of a map whatever is done with it. -/
import Derived.Test.YtofhmhbffdoiaaaDoorSI
namespace Go.Proofs.YtofhmhbffdoiaaaDoor
open Go Go.SX Go.VX
set_option maxRecDepth 100000
set_option linter.unusedVariables false
set_option linter.unusedSimpArgs false
structure Inv (n : Nat) (m : Mp) (b : List Int) : Prop where
  dis : ∀ q, q < n → m.fr q = true → m.he q = false
  own : ∀ q, q < n → m.fr q = true → m.ow q = false
  beg : b = castL (pgs n (fun q => !m.wa q) 0)
theorem Inv.take {n : Nat} {m : Mp} {b : List Int} (h : Inv n m b) (p k : Nat) : Inv n (takeM m p k) b := by
  refine ⟨fun q hq hf => ?_, fun q hq hf => ?_, h.beg⟩
  · unfold takeM at hf ⊢
    simp only [Bool.and_eq_true] at hf
    exact h.dis q hq hf.1
  · unfold takeM at hf ⊢
    simp only [Bool.and_eq_true, Bool.not_eq_true'] at hf
    simp only
    rw [h.own q hq hf.1, hf.2]; rfl
theorem Inv.free {n : Nat} {m : Mp} {b : List Int} (h : Inv n m b) {p : Int} (hp : hasP n m p) : Inv n (freeM m p.toNat) b := by
  obtain ⟨a, c, d, e⟩ := hp
  unfold freeM
  by_cases ho : m.ow p.toNat = true
  · rw [if_pos ho]
    refine ⟨fun q hq hf => ?_, fun q hq hf => ?_, h.beg⟩
    · simp only [upd] at hf ⊢
      by_cases hqp : q = p.toNat
      · rw [hqp]; exact e
      · rw [if_neg hqp] at hf; exact h.dis q hq hf
    · simp only [upd] at hf ⊢
      by_cases hqp : q = p.toNat
      · rw [if_pos hqp]
      · rw [if_neg hqp] at hf ⊢; exact h.own q hq hf
  · rw [if_neg ho]
    refine ⟨fun q hq hf => ?_, fun q hq hf => ?_, h.beg⟩
    · simp only [upd] at hf ⊢
      by_cases hqp : q = p.toNat
      · rw [hqp, d] at hf; cases hf
      · rw [if_neg hqp]; exact h.dis q hq hf
    · simp only [upd] at hf ⊢
      by_cases hqp : q = p.toNat
      · rw [if_pos hqp]
      · rw [if_neg hqp]; exact h.own q hq hf
/-- What a map is when it is told anew. -/
def newM (f : Nat → Bool) : Mp := ⟨f, no, no, f⟩
theorem Inv.new (n : Nat) (f : Nat → Bool) : Inv n (newM f) (castL (pgs n (fun q => !f q) 0)) := ⟨fun _ _ _ => rfl, fun _ _ _ => rfl, rfl⟩
theorem tk_new (f : Nat → Bool) : tk (newM f) = fun q => !f q := by
  funext q
  unfold tk newM no
  simp
theorem tk_or (m : Mp) : tk m = fun q => !(m.fr q || m.he q) := by
  funext q
  unfold tk
  rw [Bool.not_or]
theorem count3 {f h : Nat → Bool} : ∀ (l : List Nat), (∀ q ∈ l, f q = true → h q = false) → (l.filter fun q => !f q && !h q).length + l.countP h + l.countP f = l.length
  | [], _ => rfl
  | q :: l, hl => by
    have ih := count3 l fun x hx => hl x (List.mem_cons_of_mem _ hx)
    have h1 := hl q (List.mem_cons_self ..)
    rw [List.filter_cons, List.countP_cons, List.countP_cons, List.length_cons]
    cases hf : f q with
    | true => rw [h1 hf]; simp; omega
    | false => cases hh : h q <;> simp <;> omega
theorem count_all {n : Nat} {m : Mp} {b : List Int} (h : Inv n m b) : (castL (pgs n (tk m) 0)).length + (List.range n).countP m.he + (List.range n).countP m.fr = n := by
  have := count3 (f := m.fr) (h := m.he) (List.range n) fun q hq hf => h.dis q (List.mem_range.1 hq) hf
  rw [List.length_range] at this
  unfold castL
  rw [List.length_map, pgs_zero]
  exact this
theorem castL_len {n : Nat} {f : Nat → Bool} : (castL (pgs n f 0)).length ≤ n := by
  unfold castL
  rw [List.length_map]
  exact pgs_len
abbrev OpL := List T_incipitlaw08_Op
theorem tk_m0 (xs : List Int) : tk (m0 xs) = fun q => !(m0 xs).wa q := by
  funext q
  unfold tk m0 no
  simp
theorem min_len (N : Nat) {α : Type} (xs : List α) : (if (N : Int) < (xs.length : Int) then (N : Int) else (xs.length : Int)) = ((min N xs.length : Nat) : Int) := by
  split <;> omega
end Go.Proofs.YtofhmhbffdoiaaaDoor
