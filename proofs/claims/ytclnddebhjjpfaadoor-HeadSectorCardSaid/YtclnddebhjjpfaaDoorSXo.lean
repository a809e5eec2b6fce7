/- SX, part o: two operations that may both come next. -/
import Derived.Test.YtclnddebhjjpfaaDoorSXn
namespace Go.SX
open Go Go.RowKit
variable {rd : Option Nat} {P : Program} {T : Tb} {E : List Value} {ds : List Deferred} {w : World}

def among (ops : List Oper) (listed : List Bool) (is : List Nat) : Bool := is.all (fun i => isReady ops listed i) && (!is.isEmpty) && (List.range ops.length).all fun j => !isReady ops listed j || is.contains j
def RWay (rd : Option Nat) (P : Program) (ops : List Oper) (K : Kont) (S : World → Prop) (m : Nat) (listed : List Bool) (E : List Value) (ds : List Deferred) (w : World) (i : Nat) : Prop :=
  opI rd P ops.toArray i (fun a' w' => (i < m → S w') ∧ Any rd P ops.toArray (fun a w => K a.tmps.toList a.defers w) S m (left (listed.set i true)) (listed.set i true).toArray a' w') (ac E ds) w
theorem RWay.op {ops : List Oper} {K : Kont} {S : World → Prop} {m i : Nat} {o : Oper} {listed : List Bool} (hi : ops[i]? = some o) (hw : want ops E o = true)
    (h : opK rd P o (fun a' w' => (i < m → S w') ∧ Any rd P ops.toArray (fun a w => K a.tmps.toList a.defers w) S m (left (listed.set i true)) (listed.set i true).toArray a' w') (ac E ds) w) : RWay rd P ops K S m listed E ds w i := by
  unfold RWay opI
  simp only [List.getElem?_toArray, hi]
  rw [want_ok, hw]
  simpa using h
theorem RD.ways {ops : List Oper} {K : Kont} {S : World → Prop} {m : Nat} {listed : List Bool} (is : List Nat) (ho : among ops listed is = true) (h : ∀ i ∈ is, RWay rd P ops K S m listed E ds w i) : RD rd P ops K S m listed E ds w := by
  unfold among at ho
  simp only [Bool.and_eq_true, List.all_eq_true, Bool.not_eq_true'] at ho
  obtain ⟨⟨hr, hne⟩, hall⟩ := ho
  cases is with
  | nil => simp at hne
  | cons i0 is' =>
    have hun : ∀ i ∈ i0 :: is', listed.getD i true = false := fun i hi => by
      have hr' := hr i hi
      unfold isReady at hr'
      simp only [Bool.and_eq_true, Bool.not_eq_true'] at hr'
      exact hr'.1
    unfold RD
    rw [left_set (hun i0 (List.mem_cons_self ..))]
    refine ⟨fun h0 => ?_, fun j hj => ?_⟩
    · have := ready_iff.2 (hr i0 (List.mem_cons_self ..))
      rw [h0] at this
      cases this
    · have hjr := ready_iff.1 hj
      have hlt : j < ops.length := by
        have : j ∈ Region.ready MD ops.toArray listed.toArray := hj
        unfold Region.ready at this
        rw [List.mem_filter, List.mem_range] at this
        simpa using this.1
      have hji : j ∈ i0 :: is' := by
        have := hall j (List.mem_range.2 hlt)
        simp only [hjr, Bool.not_true, Bool.false_or] at this
        simpa using this
      have h1 := h j hji
      unfold RWay at h1
      have hl : left (listed.set j true) = left (listed.set i0 true) := by
        have a := left_set (hun i0 (List.mem_cons_self ..))
        have b := left_set (hun j hji)
        omega
      rw [hl] at h1
      simpa using h1
end Go.SX
