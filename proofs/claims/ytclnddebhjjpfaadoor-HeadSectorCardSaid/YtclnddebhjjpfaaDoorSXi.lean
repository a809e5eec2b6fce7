/- SX, part i: the words that a printed function uses, and the small laws of its walk. -/
import Derived.Test.YtclnddebhjjpfaaDoorSXh
namespace Go.SX
open Go Go.RowKit

/-! ### Words of the plain functions -/
def getI {τ : Type} (xs : List τ) (i : Int) : Option τ := if 0 ≤ i then xs[i.toNat]? else none
def cutI {τ : Type} (xs : List τ) (l h : Int) : Option (List τ) := if 0 ≤ l ∧ l ≤ h ∧ h ≤ (xs.length : Int) then some ((xs.drop l.toNat).take (h.toNat - l.toNat)) else none
def setI {τ : Type} (xs : List τ) (i : Int) (x : τ) : Option (List τ) := if 0 ≤ i ∧ i < (xs.length : Int) then some (xs.set i.toNat x) else none
def repI {τ : Type} (n : Int) (x : τ) (bytes : Nat) : Option (List τ) := if 0 ≤ n ∧ n * (bytes : Int) + n ≤ 140737488355328 then some (List.replicate n.toNat x) else none
def appI {τ : Type} (xs ys : List τ) (bytes : Nat) : Option (List τ) := if (xs.length + ys.length) * bytes + (xs.length + ys.length) ≤ 140737488355328 then some (xs ++ ys) else none
def FUEL : Nat := 18446744073709551616

/-! ### Laws of the walk -/
theorem bindS {α β : Type} {o : Option α} {f : α → Option β} {r : β} (h : o.bind f = some r) : ∃ x, o = some x ∧ f x = some r := Option.bind_eq_some_iff.1 h
theorem iteS {α : Type} {p : Prop} [Decidable p] {a : Option α} {r : α} (h : (if p then a else none) = some r) : p ∧ a = some r := by
  split at h
  · exact ⟨by assumption, h⟩
  · cases h
theorem iteT {α : Type} {p : Prop} [Decidable p] {a b : α} {r : α} (hp : p) (h : (if p then a else b) = r) : a = r := by rwa [if_pos hp] at h
theorem iteF {α : Type} {p : Prop} [Decidable p] {a b : α} {r : α} (hp : ¬ p) (h : (if p then a else b) = r) : b = r := by rwa [if_neg hp] at h
theorem someS {α : Type} {a r : α} (h : some a = some r) : a = r := Option.some.inj h
theorem noneS {α : Type} {r : α} {p : Prop} (h : none = some r) : p := by cases h
theorem getS {τ : Type} {xs : List τ} {i : Int} {x : τ} (h : getI xs i = some x) : (0 ≤ i ∧ i < (xs.length : Int)) ∧ xs[i.toNat]? = some x := by
  unfold getI at h
  split at h
  · have := (List.getElem?_eq_some_iff.1 h).1
    exact ⟨⟨by assumption, by omega⟩, h⟩
  · cases h
theorem cutS {τ : Type} {xs ys : List τ} {l h : Int} (g : cutI xs l h = some ys) : (0 ≤ l ∧ l ≤ h ∧ h ≤ (xs.length : Int)) ∧ ys = (xs.drop l.toNat).take (h.toNat - l.toNat) ∧ h.toNat - l.toNat = ys.length := by
  unfold cutI at g
  split at g
  · rename_i hc
    cases g
    refine ⟨hc, rfl, ?_⟩
    rw [List.length_take, List.length_drop]
    omega
  · cases g
theorem bo_t {p : Prop} [Decidable p] (h : p) : Value.bool (decide p) = .bool true := by rw [decide_eq_true h]
theorem bo_f {p : Prop} [Decidable p] (h : ¬ p) : Value.bool (decide p) = .bool false := by rw [decide_eq_false h]
theorem eq_t {a b : Int} (h : a = b) : Value.bool (a == b) = .bool true := by rw [beq_iff_eq.2 h]
theorem eq_f {a b : Int} (h : ¬ a = b) : Value.bool (a == b) = .bool false := by rw [beq_eq_false_iff_ne.2 h]
theorem ne_t {a b : Int} (h : ¬ a = b) : Value.bool (a != b) = .bool true := by rw [bne_iff_ne.2 h]
theorem ne_f {a b : Int} (h : a = b) : Value.bool (a != b) = .bool false := by rw [bne_eq_false_iff_eq.2 h]
theorem b_t {b : Bool} (h : b = true) : Value.bool b = .bool true := by rw [h]
theorem b_f {b : Bool} (h : ¬ b = true) : Value.bool b = .bool false := by rw [Bool.eq_false_iff.2 h]
theorem nb_t {b : Bool} (h : ¬ b = true) : Value.bool (!b) = .bool true := by rw [Bool.eq_false_iff.2 h]; rfl
theorem nb_f {b : Bool} (h : b = true) : Value.bool (!b) = .bool false := by rw [h]; rfl

section
variable {τ : Type} {r : Rp τ} {I : Nat → Prop} {w : World} {v : Value} {xs : List τ}
theorem RO.inv (h : RO (Rp.slice r) I w v xs) : ∃ A c, v = .slice A xs.length c ∧ (xs.length ≤ c ∧ c ≤ 9223372036854775807) ∧ Elems r I w A xs := by
  obtain ⟨A, c, h1, h2, h3, h4⟩ := h
  exact ⟨A, c, by simpa using h1, ⟨h2, h3⟩, h4⟩
theorem RO.mk {A : Option Addr} {c : Nat} (hc : xs.length ≤ c ∧ c ≤ 9223372036854775807) (e : Elems r I w A xs) : RO (Rp.slice r) I w (.slice A xs.length c) xs := ⟨A, c, rfl, hc.1, hc.2, e⟩
theorem RO.nil : RO (Rp.slice r) I w (.slice none 0 0) [] := ⟨none, 0, rfl, by simp, by omega, fun h => absurd rfl h⟩
theorem Elems.nil : Elems r I w none ([] : List τ) := fun h => absurd rfl h
theorem Elems.opn {A : Option Addr} {i : Nat} {x : τ} (e : Elems r I w A xs) (h : xs[i]? = some x) : ∃ b o, A = some ⟨b, o, none⟩ := by
  obtain ⟨b, o, hA, _⟩ := e (by intro hn; subst hn; simp at h)
  exact ⟨b, o, hA⟩
theorem Elems.get {b o : Nat} {s : Option Nat} {i : Nat} {x : τ} (e : Elems r I w (some ⟨b, o, s⟩) xs) (h : xs[i]? = some x) : ∃ cs, r.rep I w cs x ∧ At w b (o + i * r.n) cs := by
  obtain ⟨b', o', hA, _, hc⟩ := e (by intro hn; subst hn; simp at h)
  cases hA
  exact hc i x h
theorem Elems.cut {A : Option Addr} {ys : List τ} {l h c n : Nat} (hn : n = r.n) (e : Elems r I w A xs) (hy : ys = (xs.drop l).take (h - l)) (hl : l ≤ h) (hh : h ≤ c) : Elems r I w (cutA A l c n) ys := by
  intro hne
  subst hn
  have hlt : l < h := by
    rcases Nat.lt_or_ge l h with h1 | h1
    · exact h1
    · exact absurd (by rw [hy]; simp; omega) hne
  have hx : xs ≠ [] := by intro h0; subst h0; exact hne (by rw [hy]; simp)
  obtain ⟨b, o, rfl, hb, hc⟩ := e hx
  refine ⟨b, o + l * r.n, ?_, hb, fun i x hi => ?_⟩
  · unfold cutA
    rw [if_neg (by omega)]
    rfl
  · rw [hy] at hi
    have hi2 : xs[l + i]? = some x := by
      rw [List.getElem?_take] at hi
      split at hi
      · simpa using hi
      · cases hi
    obtain ⟨cs, h1, h2⟩ := hc _ _ hi2
    exact ⟨cs, h1, by rw [Nat.add_mul] at h2; rw [Nat.add_assoc]; exact h2⟩
end

/-- Cells that tell a list. -/
def RepL {τ : Type} (r : Rp τ) (I : Nat → Prop) (w : World) : List Value → List τ → Prop
  | cells, [] => cells = []
  | cells, x :: xs => ∃ c d, cells = c ++ d ∧ r.rep I w c x ∧ RepL r I w d xs
section
variable {τ : Type} {r : Rp τ} {I I' : Nat → Prop} {w w' : World}
theorem RepL.st {cells : List Value} {xs : List τ} (h : RepL r I w cells xs) (k : Kp I w I' w') : RepL r I' w' cells xs := by
  induction xs generalizing cells with
  | nil => exact h
  | cons x xs ih =>
    obtain ⟨c, d, rfl, h1, h2⟩ := h
    exact ⟨c, d, rfl, r.st k h1, ih h2⟩
theorem RepL.length {cells : List Value} {xs : List τ} (h : RepL r I w cells xs) : cells.length = xs.length * r.n := by
  induction xs generalizing cells with
  | nil => have : cells = [] := h; simp [this]
  | cons x xs ih =>
    obtain ⟨c, d, rfl, h1, h2⟩ := h
    rw [List.length_append, r.len h1, ih h2, List.length_cons, Nat.add_mul]
    omega
theorem RepL.app {c d : List Value} {xs ys : List τ} (h : RepL r I w c xs) (h' : RepL r I w d ys) : RepL r I w (c ++ d) (xs ++ ys) := by
  induction xs generalizing c with
  | nil => have : c = [] := h; subst this; exact h'
  | cons x xs ih =>
    obtain ⟨c1, c2, rfl, h1, h2⟩ := h
    exact ⟨c1, c2 ++ d, by simp, h1, ih h2⟩
theorem RepL.one {c : List Value} {x : τ} (h : r.rep I w c x) : RepL r I w c [x] := ⟨c, [], by simp, h, rfl⟩
theorem RepL.get {cells : List Value} {xs : List τ} {i : Nat} {x : τ} (h : RepL r I w cells xs) (hx : xs[i]? = some x) : ∃ c, r.rep I w c x ∧ ∀ j v, c[j]? = some v → cells[i * r.n + j]? = some v := by
  induction xs generalizing cells i with
  | nil => simp at hx
  | cons y ys ih =>
    obtain ⟨c, d, rfl, h1, h2⟩ := h
    cases i with
    | zero =>
      simp only [List.getElem?_cons_zero, Option.some.injEq] at hx
      subst hx
      exact ⟨c, h1, fun j v hv => by rw [Nat.zero_mul, Nat.zero_add, List.getElem?_append_left (List.getElem?_eq_some_iff.1 hv).1]; exact hv⟩
    | succ i =>
      obtain ⟨c', h3, h4⟩ := ih h2 (by simpa using hx)
      refine ⟨c', h3, fun j v hv => ?_⟩
      have hl := r.len h1
      rw [List.getElem?_append_right (by rw [hl, Nat.add_mul]; omega), hl]
      have := h4 j v hv
      rw [← this]
      congr 1
      rw [Nat.add_mul]; omega
end
/-- One continuation for several ways. -/
theorem WPK.cut {rd : Option Nat} {P : Program} {c : Code} {K : Kont} {Q : Post} {E : List Value} {ds : List Deferred} {w : World} (J : Kont) (hJ : ∀ E ds w, J E ds w → K E ds w) (h : WPK rd P c J Q E ds w) : WPK rd P c K Q E ds w :=
  WPK.mono h hJ (fun _ _ _ _ h => h)
end Go.SX
