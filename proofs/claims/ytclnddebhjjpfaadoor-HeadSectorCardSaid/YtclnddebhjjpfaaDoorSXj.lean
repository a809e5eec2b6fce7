/- SX, part j: words and laws that a printed walk uses. -/
import Derived.Test.YtclnddebhjjpfaaDoorSXi
namespace Go.SX
open Go Go.RowKit

def andI (k : IntKind) (a b : Int) : Int := k.wrap (BitVec.ofInt k.bits a &&& BitVec.ofInt k.bits b).toNat
def orI (k : IntKind) (a b : Int) : Int := k.wrap (BitVec.ofInt k.bits a ||| BitVec.ofInt k.bits b).toNat
def xorI (k : IntKind) (a b : Int) : Int := k.wrap (BitVec.ofInt k.bits a ^^^ BitVec.ofInt k.bits b).toNat
def andNotI (k : IntKind) (a b : Int) : Int := k.wrap (BitVec.ofInt k.bits a &&& ~~~BitVec.ofInt k.bits b).toNat
def shlI (k : IntKind) (a b : Int) : Int := k.wrap (a * 2 ^ min b.toNat k.bits)
def shrI (k : IntKind) (a b : Int) : Int := a.fdiv (2 ^ min b.toNat k.bits)
def cplI (k : IntKind) (n : Int) : Int := k.wrap (BitVec.ofInt k.bits (if k.signed then -1 else k.max) ^^^ BitVec.ofInt k.bits n).toNat

theorem eq_v {a b : Int} : Value.bool (a == b) = .bool (decide (a = b)) := rfl
theorem ne_v {a b : Int} : Value.bool (a != b) = .bool (decide (a ≠ b)) := by
  congr 1
  by_cases h : a = b <;> simp [h]
theorem beq_v {τ : Type} [BEq τ] [LawfulBEq τ] [DecidableEq τ] {a b : τ} : Value.bool (a == b) = .bool (decide (a = b)) := by
  congr 1
  by_cases h : a = b <;> simp [h]
theorem bne_v {τ : Type} [BEq τ] [LawfulBEq τ] [DecidableEq τ] {a b : τ} : Value.bool (!(a == b)) = .bool (decide (a ≠ b)) := by
  congr 1
  by_cases h : a = b <;> simp [h]
theorem not_v {p : Prop} [Decidable p] : Value.bool (!(decide p)) = .bool (decide (¬ p)) := by
  congr 1
  by_cases h : p <;> simp [h]
theorem not_b {b : Bool} : Value.bool (!b) = .bool (decide (¬ b = true)) := by cases b <;> rfl
theorem sl_eq {A A' : Option Addr} {n n' c c' : Nat} (h1 : A = A') (h2 : n = n') (h3 : c = c') : Value.slice A n c = .slice A' n' c' := by rw [h1, h2, h3]
theorem nil_hc : ([] : List Nat).length ≤ 0 ∧ 0 ≤ 9223372036854775807 := by simp
theorem slS {τ : Type} {r : Rp τ} {I : Nat → Prop} {w : World} {A : Option Addr} {xs ys : List τ} {l h : Int} {c size : Nat} (hn : size = r.n) (hc : xs.length ≤ c ∧ c ≤ 9223372036854775807) (e : Elems r I w A xs) (g : cutI xs l h = some ys) :
    ∃ A' c', (0 ≤ l ∧ l ≤ h ∧ h ≤ (xs.length : Int) ∧ xs.length ≤ c) ∧ (ys.length ≤ c' ∧ c' ≤ 9223372036854775807) ∧ Elems r I w A' ys ∧ cutA A l.toNat c size = A' ∧ h.toNat - l.toNat = ys.length ∧ c - l.toNat = c' := by
  obtain ⟨⟨h1, h2, h3⟩, h4, h5⟩ := cutS g
  refine ⟨_, _, ⟨h1, h2, h3, hc.1⟩, ?_, Elems.cut (c := c) hn e h4 (by omega) (by omega), rfl, h5, rfl⟩
  omega
theorem slS0 {τ : Type} {r : Rp τ} {I : Nat → Prop} {w : World} {A : Option Addr} {xs ys : List τ} {h : Int} {c : Nat} (hc : xs.length ≤ c ∧ c ≤ 9223372036854775807) (e : Elems r I w A xs) (g : cutI xs 0 h = some ys) :
    ((0 ≤ h ∧ h ≤ (xs.length : Int)) ∧ xs.length ≤ c) ∧ (ys.length ≤ c ∧ c ≤ 9223372036854775807) ∧ Elems r I w A ys ∧ h.toNat = ys.length := by
  obtain ⟨⟨h1, h2, h3⟩, h4, h5⟩ := cutS g
  refine ⟨⟨⟨h2, h3⟩, hc.1⟩, by omega, fun hne => ?_, by omega⟩
  have hx : xs ≠ [] := by intro h0; subst h0; exact hne (by rw [h4]; simp)
  obtain ⟨b, o, rfl, hb, hcs⟩ := e hx
  refine ⟨b, o, rfl, hb, fun i x hi => hcs i x ?_⟩
  rw [h4, List.getElem?_take] at hi
  split at hi
  · simpa using hi
  · cases hi
theorem at_cells {w : World} {b o off n : Nat} {cs vs : List Value} (h : At w b o cs) (hv : (cs.drop off).take n = vs) (hn : vs.length = n) : (C.cells ⟨b, o + off, none⟩ vs n).holds w := by
  refine ⟨hn, fun j v hj => ?_⟩
  have h1 := h (off + j) v (by
    rw [← hv, List.getElem?_take] at hj
    split at hj
    · simpa using hj
    · cases hj)
  rw [← Nat.add_assoc] at h1
  exact h1
section
variable {w0 w : World} {M I : Nat → Prop} {L : List It}
theorem St.cells (s : St w0 M I L w) {i b off n : Nat} {cs vs : List Value} {e : Nat} {fr : Nat × Nat} (h : L[i]? = some (.blk b (.cells cs.toArray e fr))) (hv : (cs.drop off).take n = vs) (hn : vs.length = n) : (C.cells ⟨b, off, none⟩ vs n).holds w := by
  refine ⟨hn, fun j v hj => ?_⟩
  refine s.cell (off := off + j) h ?_
  rw [← hv, List.getElem?_take] at hj
  split at hj
  · simpa using hj
  · cases hj
def dropsL : Nat → List It → List It
  | 0, L => L
  | n + 1, L => dropsL n (L.eraseIdx 0)
theorem St.drops : ∀ (n : Nat) {L : List It}, St w0 M I L w → St w0 M I (dropsL n L) w
  | 0, _, s => s
  | n + 1, _, s => St.drops n (s.drop 0)
end
theorem flat_ok {vs : List Value} (h : vs.all Value.oneCell' = true) : flatv vs := fun v hv => List.all_eq_true.1 h v hv
theorem WPK.draw' {rd : Option Nat} {P : Program} {K : Kont} {Q : Post} {E : List Value} {ds : List Deferred} {w : World} {ops : List Oper} {id : Nat} (m : Nat) (hm : P.follows .mixedOrders = true)
    (h : ∀ w1, Dr w w1 → RD rd P ops K (fun w' => w' = w1) m (List.replicate ops.length false) E ds w1) : WPK rd P (.region id ops.toArray true) K Q E ds w :=
  wpIn_region_any hm (by
    have h0 := h w.drew ⟨rfl, (Below.refl _ w).drew⟩
    have hl : left (List.replicate ops.length false) = ops.length := by simp [left, List.countP_replicate]
    unfold RD at h0
    rw [hl] at h0
    have := Any.wp (Q := joinQ K Q) (fun _ _ h => h) _ _ _ _ h0
    simpa [ac] using this)
end Go.SX
