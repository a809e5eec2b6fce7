/- SX, part a: weakest preconditions over lists of slots: the rules for a function's code. -/
import Derived.RangeFuncNested
import Derived.RangeFuncLeaves
import Derived.OrdersIn
import Derived.LoopNIn
import Derived.KernelRfl
namespace Go.SX
open Go

def FW (rd : Option Nat) : Fence := { Fence.wide with round := rd }
theorem FW_none : FW none = Fence.wide := rfl

abbrev Post := Exit → List Value → List Deferred → World → Prop
abbrev Kont := List Value → List Deferred → World → Prop

def joinQ (K : Kont) (Q : Post) : Exit → Act → World → Prop
  | .normal, a, w => K a.tmps.toList a.defers w
  | x, a, w => Q x a.tmps.toList a.defers w

/-- The code, from these slots on, ends well: normally in K, else in Q. -/
def WPK (rd : Option Nat) (P : Program) (c : Code) (K : Kont) (Q : Post) (E : List Value) (ds : List Deferred) (w : World) : Prop :=
  c.wpIn (FW rd) 0 P (joinQ K Q) ⟨E.toArray, ds⟩ w

variable {rd : Option Nat} {P : Program} {K : Kont} {Q : Post} {E : List Value} {ds : List Deferred} {w : World}

theorem act_eta (a : Act) : (⟨a.tmps.toList.toArray, a.defers⟩ : Act) = a := by cases a; simp

theorem WPK.seq {x y : Code} (h : WPK rd P x (fun E ds w => WPK rd P y K Q E ds w) Q E ds w) : WPK rd P (.seq x y) K Q E ds w := by
  refine wpIn_seq (wpIn_mono h fun e a w' hq => ?_)
  cases e
  case normal =>
    have h2 : (y.wpIn (FW rd) 0 P (joinQ K Q) ⟨a.tmps.toList.toArray, a.defers⟩ w') := hq
    rw [act_eta] at h2
    exact h2
  all_goals exact hq

theorem WPK.skip (h : K E ds w) : WPK rd P .skip K Q E ds w := wpIn_skip (by simpa [joinQ] using h)
theorem WPK.label {l : Nat} (h : K E ds w) : WPK rd P (.label l) K Q E ds w := wpIn_label (by simpa [joinQ] using h)
theorem WPK.exit {id : Nat} (h : Q (.exit id) E ds w) : WPK rd P (.exit id) K Q E ds w := wpIn_exit (by simpa [joinQ] using h)
theorem WPK.ret (h : Q .ret E ds w) : WPK rd P .ret K Q E ds w := wpIn_ret (by simpa [joinQ] using h)

def ev (E : List Value) : Operand → Value
  | .tmp t => E.getD t undef
  | .const v => v
  | .global g => .pointer (some ⟨g, 0, none⟩)
  | .func f => .func (.func f) #[] #[]
theorem eval_ev (x : Operand) : (⟨E.toArray, ds⟩ : Act).eval x = ev E x := by
  cases x <;> simp [Act.eval, ev]
theorem eval_ev' : (⟨E.toArray, ds⟩ : Act).eval = ev E := funext fun x => eval_ev x

theorem WPK.condT {c : Operand} {x y : Code} (hc : ev E c = .bool true) (h : WPK rd P x K Q E ds w) : WPK rd P (.cond c x y) K Q E ds w :=
  wpIn_cond_true (by rw [eval_ev]; exact hc) h
theorem WPK.condF {c : Operand} {x y : Code} (hc : ev E c = .bool false) (h : WPK rd P y K Q E ds w) : WPK rd P (.cond c x y) K Q E ds w :=
  wpIn_cond_false (by rw [eval_ev]; exact hc) h
theorem WPK.cond {c : Operand} {x y : Code} {t : Bool} (hc : ev E c = .bool t) (h1 : t = true → WPK rd P x K Q E ds w) (h2 : t = false → WPK rd P y K Q E ds w) : WPK rd P (.cond c x y) K Q E ds w := by
  cases t
  · exact WPK.condF hc (h2 rfl)
  · exact WPK.condT hc (h1 rfl)

/-- What is asked of the ways out of a block. -/
def blockQ (id : Nat) (K : Kont) (Q : Post) : Post
  | .exit id', E, ds, w => if id' = id then K E ds w else Q (.exit id') E ds w
  | x, E, ds, w => Q x E ds w
theorem blockQ.same {id : Nat} (h : K E ds w) : blockQ id K Q (.exit id) E ds w := by simp [blockQ, h]
theorem blockQ.other {id id' : Nat} (hne : (id' == id) = false) (h : Q (.exit id') E ds w) : blockQ id K Q (.exit id') E ds w := by
  have : id' ≠ id := by simpa using hne
  simp [blockQ, this, h]
theorem blockQ.ret {id : Nat} (h : Q .ret E ds w) : blockQ id K Q .ret E ds w := h

theorem WPK.block {id : Nat} {c : Code} (h : WPK rd P c K (blockQ id K Q) E ds w) : WPK rd P (.block id c) K Q E ds w := by
  refine wpIn_block (wpIn_mono h fun e a w' hq => ?_)
  cases e
  case exit id' =>
    simp only [joinQ, blockQ] at hq
    simp only [Exit.inBlock]
    split
    · rename_i he; rw [if_pos he] at hq; exact hq
    · rename_i he; rw [if_neg he] at hq; exact hq
  all_goals exact hq

theorem WPK.mono {c : Code} {K' : Kont} {Q' : Post} (h : WPK rd P c K Q E ds w) (hK : ∀ E ds w, K E ds w → K' E ds w) (hQ : ∀ x E ds w, Q x E ds w → Q' x E ds w) : WPK rd P c K' Q' E ds w :=
  wpIn_mono h fun e a w' hq => by cases e <;> first | exact hK _ _ _ hq | exact hQ _ _ _ _ hq

/-- A loop by the number of rounds that are left, whatever they are told by. -/
theorem WPK.loop {c : Code} {I : Nat → Kont} (n : Nat) (h0 : I n E ds w)
    (hz : ∀ E ds w, I 0 E ds w → False)
    (round : ∀ n E ds w, I (n + 1) E ds w → WPK rd P c (fun E ds w => ∃ m, m ≤ n ∧ I m E ds w) Q E ds w) : WPK rd P (.loop c) K Q E ds w := by
  refine wpIn_loop (F := FW rd) (n := 0) (fun a w => ∃ m, I m a.tmps.toList a.defers w) (fun a w => by
    classical
    exact if h : ∃ m, I m a.tmps.toList a.defers w then Classical.choose (p := fun m => I m a.tmps.toList a.defers w ∧ ∀ m', I m' a.tmps.toList a.defers w → m ≤ m') (by
      obtain ⟨m, hm⟩ := h
      induction m using Nat.strongRecOn with
      | _ m ih =>
        by_cases hx : ∃ m', m' < m ∧ I m' a.tmps.toList a.defers w
        · obtain ⟨m', hlt, hm'⟩ := hx; exact ih m' hlt hm'
        · exact ⟨m, hm, fun m' hm' => Nat.le_of_not_lt fun hlt => hx ⟨m', hlt, hm'⟩⟩) else 0) ⟨n, by simpa using h0⟩ ?_
  rintro a w hI
  have hx := hI
  have hsp := Classical.choose_spec (p := fun m => I m a.tmps.toList a.defers w ∧ ∀ m', I m' a.tmps.toList a.defers w → m ≤ m') (by
      obtain ⟨m, hm⟩ := hI
      induction m using Nat.strongRecOn with
      | _ m ih =>
        by_cases hx : ∃ m', m' < m ∧ I m' a.tmps.toList a.defers w
        · obtain ⟨m', hlt, hm'⟩ := hx; exact ih m' hlt hm'
        · exact ⟨m, hm, fun m' hm' => Nat.le_of_not_lt fun hlt => hx ⟨m', hlt, hm'⟩⟩)
  generalize hμ : (Classical.choose (p := fun m => I m a.tmps.toList a.defers w ∧ ∀ m', I m' a.tmps.toList a.defers w → m ≤ m') _) = μ at hsp
  obtain ⟨hm, hmin⟩ := hsp
  cases μ with
  | zero => exact (hz _ _ _ hm).elim
  | succ k =>
    have h1 := round k _ _ _ hm
    have h2 : c.wpIn (FW rd) 0 P (joinQ (fun E ds w => ∃ m, m ≤ k ∧ I m E ds w) Q) a w := by
      have h3 : c.wpIn (FW rd) 0 P (joinQ (fun E ds w => ∃ m, m ≤ k ∧ I m E ds w) Q) ⟨a.tmps.toList.toArray, a.defers⟩ w := h1
      rwa [act_eta] at h3
    refine wpIn_mono h2 fun e a' w' hq => ?_
    cases e
    case normal =>
      obtain ⟨m, hle, hm'⟩ := hq
      refine ⟨⟨m, hm'⟩, ?_⟩
      have hex : ∃ m, I m a'.tmps.toList a'.defers w' := ⟨m, hm'⟩
      simp only [dif_pos hex, dif_pos hx]
      have hs' := Classical.choose_spec (p := fun m => I m a'.tmps.toList a'.defers w' ∧ ∀ m'', I m'' a'.tmps.toList a'.defers w' → m ≤ m'') (by
        obtain ⟨m, hm⟩ := hex
        induction m using Nat.strongRecOn with
        | _ m ih =>
          by_cases hx : ∃ m', m' < m ∧ I m' a'.tmps.toList a'.defers w'
          · obtain ⟨m', hlt, hm'⟩ := hx; exact ih m' hlt hm'
          · exact ⟨m, hm, fun m' hm' => Nat.le_of_not_lt fun hlt => hx ⟨m', hlt, hm'⟩⟩)
      have := hs'.2 m hm'
      omega
    all_goals exact hq
end Go.SX
