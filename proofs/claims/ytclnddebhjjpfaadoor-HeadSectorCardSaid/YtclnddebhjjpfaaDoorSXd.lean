/- SX, part d: a region in the text's order, and one that draws its order. -/
import Derived.Test.YtclnddebhjjpfaaDoorSXc
import Derived.Shelf.Abstract
namespace Go.SX
open Go
variable {rd : Option Nat} {P : Program} {T : Tb} {E : List Value} {ds : List Deferred} {w : World}

def ac (E : List Value) (ds : List Deferred) : Act := ⟨E.toArray, ds⟩
def putE (E : List Value) : Option Nat → Value → List Value
  | some d, v => E.set d v
  | none, _ => E
theorem ac_put (d : Option Nat) (v : Value) : (ac E ds).put d v = ac (putE E d v) ds := by
  cases d <;> simp [ac, putE, Act.put]
theorem ac_eval : (ac E ds).eval = ev E := eval_ev'

abbrev F0 : Exit → Act → World → Prop := fun _ _ _ => False
def opK (rd : Option Nat) (P : Program) (o : Oper) (K : Act → World → Prop) (a : Act) (w : World) : Prop :=
  o.uponIn (FW rd) 0 P a K F0 ((o.semAt rd a.eval).run P w)
theorem uponIn_mono {o : Oper} {a : Act} {K K' : Act → World → Prop} {Q : Exit → Act → World → Prop} {r : Result Next} (h : ∀ a w, K a w → K' a w)
    (hh : o.uponIn (FW rd) 0 P a K F0 r) : o.uponIn (FW rd) 0 P a K' Q r := by
  cases r with
  | ok x w' =>
    cases x <;> simp only [Oper.uponIn] at hh ⊢ <;>
      first
        | exact h _ _ hh
        | exact ⟨hh.1, CallsIn.mono hh.2 (fun e w'' he => by cases e <;> first | exact h _ _ he | (obtain ⟨_, _, he⟩ := he; exact he.elim) | exact he.elim)⟩
        | exact ⟨hh.1, RowsIn.mono hh.2 (fun _ _ he => h _ _ he)⟩
        | exact ⟨hh.1, RoundIn.mono hh.2 (fun e w'' he => by cases e <;> first | exact h _ _ he | (obtain ⟨_, _, he⟩ := he; exact he.elim) | exact he.elim)⟩
        | exact hh.elim
  | halt x w' => cases x <;> simp only [Oper.uponIn] at hh <;> exact hh.elim
theorem opK_mono {o : Oper} {a : Act} {K K' : Act → World → Prop} (h : ∀ a w, K a w → K' a w) (hh : opK rd P o K a w) : opK rd P o K' a w := uponIn_mono h hh
theorem opK_wp {o : Oper} {a : Act} {K : Act → World → Prop} {Q : Exit → Act → World → Prop} (hh : opK rd P o K a w) : o.wpIn (FW rd) 0 P a w K Q :=
  ⟨fun _ _ => trivial, uponIn_mono (fun _ _ h => h) hh⟩

/-! ### In the text's order -/
def RW (rd : Option Nat) (P : Program) (ops : Array Oper) (K : Kont) : List Oper → Act → World → Prop
  | [], a, w => K a.tmps.toList a.defers w
  | o :: r, a, w => if Region.wanted o (yielded ops a.tmps) then opK rd P o (RW rd P ops K r) a w else RW rd P ops K r (a.put o.dst undef) w
theorem RW.ops {ops : Array Oper} {K : Kont} {Q : Post} (l : List Oper) : ∀ (k : Nat), (∀ j, l[j]? = ops[k + j]?) → ∀ a w, RW rd P ops K l a w → wpOpsIn (FW rd) 0 P ops (joinQ K Q) (List.range' k l.length) a w := by
  induction l with
  | nil => intro k _ a w h; exact h
  | cons o l ih =>
    intro k h a w hh
    have h0 : ops[k]? = some o := by simpa using (h 0).symm
    have ih' := ih (k + 1) (fun j => by have := h (j + 1); simpa [Nat.add_assoc, Nat.add_comm 1 j] using this)
    simp only [List.length_cons, List.range'_succ, wpOpsIn, h0]
    simp only [RW] at hh
    split
    · rename_i hw; rw [if_pos hw] at hh; exact opK_wp (opK_mono ih' hh)
    · rename_i hw; rw [if_neg hw] at hh; exact ⟨fun _ _ => trivial, ih' _ _ hh⟩
theorem WPK.region {id : Nat} {l : List Oper} {K : Kont} {Q : Post} (h : RW rd P l.toArray K l (ac E ds) w) : WPK rd P (.region id l.toArray false) K Q E ds w :=
  wpIn_region (by
    have := RW.ops (Q := Q) l 0 (fun j => by simp) _ _ h
    rw [List.range_eq_range']
    simpa [ac] using this)
theorem RW.nil {ops : Array Oper} {K : Kont} (h : K E ds w) : RW rd P ops K [] (ac E ds) w := h

def want (ops : List Oper) (E : List Value) (o : Oper) : Bool :=
  match o.guard with
  | none => true
  | some (j, b) => match (ops[j]?).bind (·.dst) with
    | some d => match E[d]? with
      | some (.bool x) => x == b
      | _ => false
    | none => false
theorem want_ok {ops : List Oper} {o : Oper} : Region.wanted o (yielded ops.toArray (ac E ds).tmps) = want ops E o := by
  obtain ⟨dst, op, type, pos, after, guard⟩ := o
  cases guard with
  | none => rfl
  | some g =>
    obtain ⟨j, b⟩ := g
    simp only [Region.wanted, want, yielded, ac, List.getElem?_toArray]
    cases hd : (ops[j]?).bind (·.dst) with
    | none => simp
    | some d =>
      simp only [Option.bind_some]
      cases E[d]? with
      | none => simp
      | some v => cases v <;> simp
def isLoad : Op → Bool
  | .load .. => true
  | .convert .. => true
  | _ => false
/-- A value may be told otherwise. -/
def over (d : Option Nat) (v : Value) (c : C) (ov : List (Nat × Value)) : Value × C :=
  match d with
  | some d => match ov.lookup d with
    | some v' => (v', match c with | .tt => .veq v v' | c => .both c (.veq v v'))
    | none => (v, c)
  | none => (v, c)
def consC : C → List C → List C
  | .tt, l => l
  | c, l => c :: l
def AllC (w : World) : List C → Prop
  | [] => True
  | [c] => c.holds w
  | c :: l => c.holds w ∧ AllC w l
theorem AllC.cons {c : C} {l : List C} (h : AllC w (consC c l)) : c.holds w ∧ AllC w l := by
  cases c <;> cases l <;> first | exact ⟨trivial, h⟩ | exact ⟨h, trivial⟩ | exact h
theorem over_ok {d : Option Nat} {v v' : Value} {c c' : C} {ov : List (Nat × Value)} (h : over d v c ov = (v', c')) (hc : c'.holds w) : v' = v ∧ c.holds w := by
  unfold over at h
  split at h
  · split at h
    · cases h
      split at hc
      · simp only [C.holds] at hc; subst hc; exact ⟨rfl, trivial⟩
      · simp only [C.holds] at hc; obtain ⟨h1, h2⟩ := hc; subst h2; exact ⟨rfl, h1⟩
    · cases h; exact ⟨rfl, hc⟩
  · cases h; exact ⟨rfl, hc⟩
/-- n operations, one behind the other: their values, and what they ask. -/
def runSeg (T : Tb) (ops : List Oper) : Nat → List Oper → List Value → List Value → List (Nat × Value) → Option (List Value × List C)
  | 0, _, _, _, _ => some ([], [])
  | _ + 1, [], _, _, _ => none
  | n + 1, o :: rest, E, ld, ov =>
    match want ops E o with
    | false => match runSeg T ops n rest (putE E o.dst undef) ld ov with
      | none => none
      | some (vs, cs) => some (undef :: vs, cs)
    | true =>
      match stepOp T E o.op (if isLoad o.op then ld.headD undef else undef) with
      | none => none
      | some (v, c) =>
        match runSeg T ops n rest (putE E o.dst (over o.dst v c ov).1) (if isLoad o.op then ld.tail else ld) ov with
        | none => none
        | some (vs, cs) => some ((over o.dst v c ov).1 :: vs, consC (over o.dst v c ov).2 cs)
def putsE (E : List Value) : List Oper → List Value → List Value
  | o :: os, v :: vs => putsE (putE E o.dst v) os vs
  | _, _ => E
theorem stepOp_nodefer {o : Oper} {ld : Value} {r : Value × C} (h : stepOp T E o.op ld = some r) : (∀ c, o.op ≠ .defer c) ∧ ∀ cs b, o.op ≠ .select cs b := by
  constructor
  · intro c hc; rw [hc] at h; simp [stepOp] at h
  · intro cs b hc; rw [hc] at h; simp [stepOp] at h
theorem opK_step (hT : Tb.ok P T) {o : Oper} {ld v : Value} {c : C} {K : Act → World → Prop} (h : stepOp T E o.op ld = some (v, c)) (hc : c.holds w) (hk : K (ac (putE E o.dst v) ds) w) : opK rd P o K (ac E ds) w := by
  unfold opK
  rw [Oper.semAt_eq _ _ _ (stepOp_nodefer h).1, ac_eval, stepOp_ok hT h hc, Oper.uponIn_value, ac_put]
  exact hk
theorem RW.seg (hT : Tb.ok P T) {ops : List Oper} {K : Kont} : ∀ (n : Nat) {rest : List Oper} {E : List Value} (ld : List Value) (ov : List (Nat × Value)) (vs : List Value) (cs : List C),
    runSeg T ops n rest E ld ov = some (vs, cs) → AllC w cs → RW rd P ops.toArray K (rest.drop n) (ac (putsE E (rest.take n) vs) ds) w → RW rd P ops.toArray K rest (ac E ds) w := by
  intro n
  induction n with
  | zero => intro rest E ld ov vs cs h _ hk; simpa [putsE] using hk
  | succ n ih =>
    intro rest E ld ov vs cs h hc hk
    cases rest with
    | nil => simp [runSeg] at h
    | cons o rest =>
      simp only [runSeg] at h
      simp only [RW]
      rw [want_ok]
      split at h
      · rename_i hw
        rw [hw]
        simp only [Bool.false_eq_true, if_false]
        rw [ac_put]
        split at h
        · cases h
        · rename_i vs' cs' hr
          cases h
          exact ih ld ov vs' cs hr hc hk
      · rename_i hw
        rw [hw]
        simp only [if_true]
        split at h
        · cases h
        · rename_i v c hs
          split at h
          · cases h
          · rename_i vs'' cs'' hr
            cases h
            obtain ⟨h1, h2⟩ := hc.cons
            obtain ⟨h3, h4⟩ := over_ok (c' := (over o.dst v c ov).2) (v' := (over o.dst v c ov).1) rfl h1
            simp only [List.take_succ_cons, List.drop_succ_cons, putsE] at hk
            rw [h3] at hr hk
            exact opK_step hT hs h4 (ih _ ov vs'' cs'' hr h2 hk)
/-- An operation that does something to the world, and yields a value. -/
theorem RW.eff {ops : List Oper} {K : Kont} {o : Oper} {rest : List Oper} {v : Value} {w' : World} (hw : want ops E o = true) (hd : ∀ c, o.op ≠ .defer c)
    (h : (execOp (ev E) o).run P w = .ok (.value v) w') (hk : RW rd P ops.toArray K rest (ac (putE E o.dst v) ds) w') : RW rd P ops.toArray K (o :: rest) (ac E ds) w := by
  simp only [RW]
  rw [want_ok, hw]
  simp only [if_true, opK]
  rw [Oper.semAt_eq _ _ _ hd, ac_eval, h, Oper.uponIn_value, ac_put]
  exact hk
theorem RW.effS {ops : List Oper} {K : Kont} {o : Oper} {rest : List Oper} {w' : World} (hw : want ops E o = true) (hd : ∀ c, o.op ≠ .defer c)
    (h : (execOp (ev E) o).run P w = .ok .skip w') (hk : RW rd P ops.toArray K rest (ac (putE E o.dst undef) ds) w') : RW rd P ops.toArray K (o :: rest) (ac E ds) w := by
  simp only [RW]
  rw [want_ok, hw]
  simp only [if_true, opK]
  rw [Oper.semAt_eq _ _ _ hd, ac_eval, h, Oper.uponIn_skip, ac_put]
  exact hk
/-- What a call comes to: a value and a world. -/
def Ret (P : Program) (f : Nat) (args : List Value) (w : World) (R : Value → World → Prop) : Prop :=
  Calls P f args.toArray w fun e w' => ∃ v, e = .returned v ∧ R v w'
theorem Ret.mono {f : Nat} {args : List Value} {R R' : Value → World → Prop} (h : Ret P f args w R) (hr : ∀ v w', R v w' → R' v w') : Ret P f args w R' :=
  Calls.mono h fun _ _ ⟨v, he, hv⟩ => ⟨v, he, hr _ _ hv⟩
def calleeV (E : List Value) : Op → Option (Nat × List Value)
  | .call ⟨.value f, args, _⟩ => match ev E f with
    | .func (.func g) first captured => some (g, first.toList ++ args.toList.map (ev E) ++ captured.toList)
    | _ => none
  | _ => none
theorem callee_run {o : Oper} {f : Nat} {args : List Value} (he : Proofs.Enters P f) (h : calleeV E o.op = some (f, args)) : (execOp (ev E) o).run P w = .ok (.enter f args.toArray) w ∧ ∀ c, o.op ≠ .defer c := by
  obtain ⟨dst, op, type, pos, after, guard⟩ := o
  unfold calleeV at h
  split at h
  · rename_i x xs ts hop
    simp only at hop
    subst hop
    split at h
    · rename_i g fi ca hv
      cases h
      refine ⟨?_, fun c => by simp⟩
      have := he (fi ++ Array.map (ev E) xs ++ ca) w
      have h2 : (fi.toList ++ List.map (ev E) xs.toList ++ ca.toList).toArray = fi ++ Array.map (ev E) xs ++ ca := Array.ext' (by simp)
      rw [h2]
      simp [execOp, resolve, hv, Deferred.ofValue, invoke]
      simpa using this
    · cases h
  · cases h
theorem opK_call {o : Oper} {f : Nat} {args : List Value} {R : Value → World → Prop} {K : Act → World → Prop} (he : Proofs.Enters P f) (h : calleeV E o.op = some (f, args)) (hc : Ret P f args w R)
    (hk : ∀ v w', R v w' → K (ac (putE E o.dst v) ds) w') : opK rd P o K (ac E ds) w := by
  obtain ⟨h1, h2⟩ := callee_run (w := w) he h
  unfold opK
  rw [Oper.semAt_eq _ _ _ h2, ac_eval, h1, Oper.uponIn_enter]
  refine ⟨fun h => by simp [FW, Fence.wide] at h, ?_⟩
  have h3 : CallsIn (FW rd) 0 P f args.toArray w fun e w' => ∃ v, e = .returned v ∧ R v w' := callsIn_wide.2 hc
  refine h3.mono ?_
  rintro e w' ⟨v, rfl, hv⟩
  have := hk v w' hv
  rw [← ac_put] at this
  exact this
theorem RW.call {ops : List Oper} {K : Kont} {o : Oper} {rest : List Oper} {f : Nat} {args : List Value} {R : Value → World → Prop} (hw : want ops E o = true) (he : Proofs.Enters P f)
    (h : calleeV E o.op = some (f, args)) (hc : Ret P f args w R) (hk : ∀ v w', R v w' → RW rd P ops.toArray K rest (ac (putE E o.dst v) ds) w') : RW rd P ops.toArray K (o :: rest) (ac E ds) w := by
  simp only [RW]
  rw [want_ok, hw]
  simp only [if_true]
  exact opK_call he h hc hk
end Go.SX
