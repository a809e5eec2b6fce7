/- SX, part p: calls that are walked in place; ranges over functions, walked in place. -/
import Derived.Test.YtclnddebhjjpfaaDoorSXo
import Derived.RangeFuncIn
import Derived.RangeFuncRecord
import Derived.RangeFuncNested
namespace Go.SX
open Go Go.RowKit
variable {rd : Option Nat} {P : Program} {T : Tb} {E : List Value} {ds : List Deferred} {w w0 : World} {M I : Nat → Prop} {L : List It}

/-- A call, walked in place: how it goes on behind its end. -/
theorem OK.inl {o : Oper} {f : Nat} {args : List Value} {K : Act → World → Prop} (he : Proofs.Enters P f) (h : calleeV E o.op = some (f, args))
    (hc : ∀ R : Value → World → Prop, (∀ v w', K (ac (putE E o.dst v) ds) w' → R v w') → Ret P f args w R) : opK rd P o K (ac E ds) w :=
  opK_call (R := fun v w' => K (ac (putE E o.dst v) ds) w') he h (hc _ fun _ _ h => h) (fun _ _ h => h)
/-- Ways that meet behind a call. -/
theorem Ret.cut {f : Nat} {args : List Value} {R : Value → World → Prop} (J : Value → World → Prop) (hJ : ∀ v w', J v w' → R v w') (h : Ret P f args w J) : Ret P f args w R := h.mono hJ

abbrev mk (d : Nat) : Deferred := { target := .collected d, args := #[] }
def IsRec (rec : LoopState → Option Code → Obj) (E : List Value) (ps : List Tmp) (assign body : Code) : Prop :=
  ∃ fn D, ∀ s p, rec s p = .loop { state := s, pending := p, fn := fn, tmps := E.toArray, params := ps.toArray, assign := assign, body := body, defers := D }
/-- Behind the function that was ranged over. -/
def RangeEnd (rd : Option Nat) (P : Program) (l : Nat) (K : Kont) (Q : Post) (E : List Value) (ds : List Deferred) (w : World) : Prop :=
  ∃ jump w4, (Instr.endLoop l).run P w = .ok jump w4 ∧ match jump with
    | none => K E ds w4
    | some c => WPK rd P c K Q E ds w4
theorem rangeEnd_post {l : Nat} {K : Kont} {Q : Post} {v : Value} (h : RangeEnd rd P l K Q E ds w) : rangePost (FW rd) 0 P l (joinQ K Q) ⟨E.toArray, ds⟩ (.returned v) w := by
  obtain ⟨j, w4, h1, h2⟩ := h
  refine ⟨j, w4, h1, ?_⟩
  cases j with
  | none => simpa [joinQ] using h2
  | some c => exact h2
theorem grownBy_putObj (w : World) (l : Nat) (o : Obj) : w.grownBy (w.putObj l o) (some l) := grownBy_putObj' w l o
theorem St.putObj (s : St w0 M I L w) {i b : Nat} {o o' : Obj} (h : L[i]? = some (.blk b o)) : St w0 M I (L.set i (.blk b o')) (w.putObj b o') :=
  s.turn h (grownBy_putObj w b o') (World.putObj_heap_same (lt_of_here (s.at h))) (fun _ hc => .inl hc)
theorem Kp.putObj (s : St w0 M I L w) {i b : Nat} {o o' : Obj} (h : L[i]? = some (.blk b o)) : Kp I w I (w.putObj b o') :=
  Kp.turn s h (grownBy_putObj w b o')
theorem eraseSet {i : Nat} {p : It} : (L.set i p).eraseIdx i = L.eraseIdx i := by
  apply List.ext_getElem?
  intro j
  simp only [List.getElem?_eraseIdx]
  split
  · rename_i h; rw [List.getElem?_set_ne (by omega)]
  · rename_i h; rw [List.getElem?_set_ne (by omega)]
theorem RangeEnd.done {l i : Nat} {K : Kont} {Q : Post} {E' : List Value} {ps : List Tmp} {assign body : Code} {rec : LoopState → Option Code → Obj} (hr : IsRec rec E' ps assign body) (s : St w0 M I L w)
    (hL : L[i]? = some (.blk l (rec .ready none))) (h : ∀ w4, St w0 M I (L.eraseIdx i) w4 → Kp I w I w4 → K E ds w4) : RangeEnd rd P l K Q E ds w := by
  obtain ⟨fn, D, hr⟩ := hr
  have hb : w.heap[l]? = some (rec .ready none) := s.at hL
  rw [hr] at hb
  refine ⟨_, _, run_endLoop hb (by simp), ?_⟩
  have s2 := (s.putObj (o' := .loop { state := .exhausted, pending := none, fn := fn, tmps := E'.toArray, params := ps.toArray, assign := assign, body := body, defers := D }) hL).drop i
  rw [eraseSet] at s2
  exact h _ s2 (Kp.putObj s hL)
theorem RangeEnd.jump {l i : Nat} {K : Kont} {Q : Post} {c : Code} {E' : List Value} {ps : List Tmp} {assign body : Code} {rec : LoopState → Option Code → Obj} (hr : IsRec rec E' ps assign body) (s : St w0 M I L w)
    (hL : L[i]? = some (.blk l (rec .done (some c)))) (h : ∀ w4, St w0 M I (L.eraseIdx i) w4 → Kp I w I w4 → WPK rd P c K Q E ds w4) : RangeEnd rd P l K Q E ds w := by
  obtain ⟨fn, D, hr⟩ := hr
  have hb : w.heap[l]? = some (rec .done (some c)) := s.at hL
  rw [hr] at hb
  refine ⟨_, _, run_endLoop hb (by simp), ?_⟩
  have s2 := (s.putObj (o' := .loop { state := .exhausted, pending := some c, fn := fn, tmps := E'.toArray, params := ps.toArray, assign := assign, body := body, defers := D }) hL).drop i
  rw [eraseSet] at s2
  exact h _ s2 (Kp.putObj s hL)
theorem WPK.range {g : Operand} {ps : List Tmp} {assign body : Code} {K : Kont} {Q : Post} {gf : Nat} {first cap : List Value} (s : St w0 M I L w)
    (hg : ev E g = .func (.func gf) first.toArray cap.toArray) (he : Proofs.Enters P gf)
    (h : ∀ (l d : Nat) (rec : LoopState → Option Code → Obj) (w1 : World) (R : Value → World → Prop), IsRec rec E ps assign body → St w0 M I (.blk l (rec .ready none) :: .blk d (.deferred (some [])) :: L) w1 → Kp I w I w1 →
      (∀ v w3, RangeEnd none P l K Q E (mk d :: ds) w3 → R v w3) → Ret P gf (first ++ [Value.func (.yield l) #[] #[]] ++ cap) w1 R) :
    WPK none P (.rangeFunc g ps.toArray assign body) K Q E ds w := by
  refine wpIn_rangeFunc ?_
  intro fn _
  have s1 := s.alloc (.deferred (some []))
  have k1 := Kp.alloc s (.deferred (some []))
  have s2 := s1.alloc (.loop { state := .ready, pending := none, fn := fn, tmps := E.toArray, params := ps.toArray, assign := assign, body := body, defers := w.heap.size })
  have k2 := Kp.alloc s1 (.loop { state := .ready, pending := none, fn := fn, tmps := E.toArray, params := ps.toArray, assign := assign, body := body, defers := w.heap.size })
  have hent := run_enterLoop_outer (P := P) (w := w) fn E.toArray ps.toArray assign body
  simp only [World.size_alloc] at s2
  revert s2 k2 hent
  generalize (w.alloc (.deferred (some []))).alloc (.loop { state := .ready, pending := none, fn := fn, tmps := E.toArray, params := ps.toArray, assign := assign, body := body, defers := w.heap.size }) = W2
  intro k2 hent s2
  refine ⟨w.heap.size + 1, [mk w.heap.size], W2, { target := .fn (.func gf) cap.toArray, args := first.toArray ++ #[.func (.yield (w.heap.size + 1)) #[] #[]] }, W2, gf,
    (first ++ [Value.func (.yield (w.heap.size + 1)) #[] #[]] ++ cap).toArray, W2, hent, ?_, fun _ _ => trivial, ?_, fun hd => by simp [FW, Fence.wide] at hd, ?_⟩
  · have hg' : (⟨E.toArray, ds⟩ : Act).eval g = .func (.func gf) first.toArray cap.toArray := by rw [eval_ev]; exact hg
    simp only [resolve, hg']
    simp [Deferred.ofValue, Act.eval]
  · have := he (first.toArray ++ #[.func (.yield (w.heap.size + 1)) #[] #[]] ++ cap.toArray) W2
    simp only [invoke]
    simpa using this
  · have hret := h (w.heap.size + 1) w.heap.size (fun st pe => .loop { state := st, pending := pe, fn := fn, tmps := E.toArray, params := ps.toArray, assign := assign, body := body, defers := w.heap.size }) W2
      (fun v w3 => RangeEnd none P (w.heap.size + 1) K Q E (mk w.heap.size :: ds) w3) ⟨fn, w.heap.size, fun _ _ => rfl⟩ s2 (k1.trans k2) (fun _ _ h => h)
    have h3 : CallsIn (FW none) 0 P gf _ _ fun e w' => ∃ v, e = .returned v ∧ RangeEnd none P (w.heap.size + 1) K Q E (mk w.heap.size :: ds) w' := callsIn_wide.2 hret
    refine h3.mono ?_
    rintro e w' ⟨v, rfl, hv⟩
    exact rangeEnd_post hv
/-- The same within a round. -/
theorem WPK.rangeIn {g : Operand} {ps : List Tmp} {assign body : Code} {K : Kont} {Q : Post} {gf l0 i0 : Nat} {st0 : LoopState} {pe0 : Option Code} {first cap : List Value} {E0 : List Value} {ps0 : List Tmp} {assign0 body0 : Code} {rec0 : LoopState → Option Code → Obj}
    (hr0 : IsRec rec0 E0 ps0 assign0 body0) (s : St w0 M I L w) (hL0 : L[i0]? = some (.blk l0 (rec0 st0 pe0)))
    (hg : ev E g = .func (.func gf) first.toArray cap.toArray) (he : Proofs.Enters P gf)
    (h : ∀ (l : Nat) (rec : LoopState → Option Code → Obj) (w1 : World) (R : Value → World → Prop), IsRec rec E ps assign body → St w0 M I (.blk l (rec .ready none) :: L) w1 → Kp I w I w1 →
      (∀ v w3, RangeEnd (some l0) P l K Q E ds w3 → R v w3) → Ret P gf (first ++ [Value.func (.yield l) #[] #[]] ++ cap) w1 R) :
    WPK (some l0) P (.rangeFunc g ps.toArray assign body) K Q E ds w := by
  refine wpIn_rangeFunc ?_
  intro fn _
  obtain ⟨fn0, D0, hr0⟩ := hr0
  have hb0 : w.heap[l0]? = some (rec0 st0 pe0) := s.at hL0
  rw [hr0] at hb0
  have s2 := s.alloc (.loop { state := .ready, pending := none, fn := fn, tmps := E.toArray, params := ps.toArray, assign := assign, body := body, defers := D0 })
  have k2 := Kp.alloc s (.loop { state := .ready, pending := none, fn := fn, tmps := E.toArray, params := ps.toArray, assign := assign, body := body, defers := D0 })
  have hent := run_enterLoop_inner (P := P) hb0 fn E.toArray ps.toArray assign body
  simp only at hent
  revert s2 k2 hent
  generalize (w.alloc (.loop { state := .ready, pending := none, fn := fn, tmps := E.toArray, params := ps.toArray, assign := assign, body := body, defers := D0 })) = W2
  intro s2 k2 hent
  refine ⟨w.heap.size, [], W2, { target := .fn (.func gf) cap.toArray, args := first.toArray ++ #[.func (.yield w.heap.size) #[] #[]] }, W2, gf,
    (first ++ [Value.func (.yield w.heap.size) #[] #[]] ++ cap).toArray, W2, hent, ?_, fun _ _ => trivial, ?_, fun hd => by simp [FW, Fence.wide] at hd, ?_⟩
  · have hg' : (⟨E.toArray, ds⟩ : Act).eval g = .func (.func gf) first.toArray cap.toArray := by rw [eval_ev]; exact hg
    simp only [resolve, hg']
    simp [Deferred.ofValue, Act.eval]
  · have := he (first.toArray ++ #[.func (.yield w.heap.size) #[] #[]] ++ cap.toArray) W2
    simp only [invoke]
    simpa using this
  · have hret := h w.heap.size (fun st pe => .loop { state := st, pending := pe, fn := fn, tmps := E.toArray, params := ps.toArray, assign := assign, body := body, defers := D0 }) W2
      (fun v w3 => RangeEnd (some l0) P w.heap.size K Q E ds w3) ⟨fn, D0, fun _ _ => rfl⟩ s2 k2 (fun _ _ h => h)
    have h3 : CallsIn (FW (some l0)) 0 P gf _ _ fun e w' => ∃ v, e = .returned v ∧ RangeEnd (some l0) P w.heap.size K Q E ds w' := callsIn_wide.2 hret
    refine h3.mono ?_
    rintro e w' ⟨v, rfl, hv⟩
    exact rangeEnd_post hv
/-! ### A round -/
def yieldV (E : List Value) : Op → Option (Nat × List Value)
  | .call ⟨.value f, args, _⟩ => match ev E f with
    | .func (.yield l) first captured => if captured.size = 0 then some (l, first.toList ++ args.toList.map (ev E)) else none
    | _ => none
  | _ => none
def setsE : List Value → List Tmp → List Value → List Value
  | E, t :: ts, v :: vs => setsE (E.set t v) ts vs
  | E, _, _ => E
theorem setsE_eq : ∀ (ts : List Tmp) (vs E : List Value), (ts.toArray.zip vs.toArray).foldl (fun (tmps : Array Value) (p : Tmp × Value) => tmps.setIfInBounds p.1 p.2) E.toArray = (setsE E ts vs).toArray := by
  intro ts vs E
  rw [← Array.foldl_toList, Array.toList_zip]
  show (ts.zip vs).foldl _ _ = _
  induction ts generalizing vs E with
  | nil => simp [setsE]
  | cons t ts ih =>
    cases vs with
    | nil => simp [setsE]
    | cons v vs =>
      simp only [List.zip_cons_cons, List.foldl_cons, setsE]
      rw [← ih]
      simp
/-- Behind the assignments of a round: it begins. -/
def RoundBeg (P : Program) (l : Nat) (body : Code) (R : Ending → World → Prop) (E : List Value) (ds : List Deferred) (w : World) : Prop :=
  ∃ w2, (Instr.beginRound l).run P w = .ok () w2 ∧ body.wpIn (FW (some l)) 0 P (roundPost P l R) ⟨E.toArray, ds⟩ w2
/-- Behind a round's body: what yield hands back. -/
def RoundEnd (P : Program) (l : Nat) (R : Ending → World → Prop) (j : Option Code) (w : World) : Prop :=
  ∃ v w', (Instr.endRound l j).run P w = .ok v w' ∧ R (.returned v) w'
def roundQ (P : Program) (l : Nat) (R : Ending → World → Prop) : Post
  | .ret, _, _, w => RoundEnd P l R (some .ret) w
  | .exit id, _, _, w => RoundEnd P l R (some (.exit id)) w
  | .goto t, _, _, w => RoundEnd P l R (some (.goto t)) w
  | _, _, _, _ => False
theorem OK.yield {o : Oper} {l i : Nat} {args : List Value} {K : Act → World → Prop} {E' : List Value} {ps : List Tmp} {assign body : Code} {rec : LoopState → Option Code → Obj} (hr : IsRec rec E' ps assign body) (s : St w0 M I L w)
    (hL : L[i]? = some (.blk l (rec .ready none))) (h : yieldV E o.op = some (l, args)) (hn : args.length = ps.length)
    (hk : ∀ R : Ending → World → Prop, (∀ v w', K (ac (putE E o.dst v) ds) w' → R (.returned v) w') → WPK (some l) P assign (RoundBeg P l body R) (fun _ _ _ _ => False) (setsE E' ps args) [] w) : opK rd P o K (ac E ds) w := by
  obtain ⟨fn, D, hr⟩ := hr
  have hb : w.heap[l]? = some (rec .ready none) := s.at hL
  rw [hr] at hb
  obtain ⟨dst, op, type, pos, after, guard⟩ := o
  simp only at h hk
  unfold yieldV at h
  split at h
  · rename_i x xs ts
    split at h
    · rename_i l' fi ca hv
      split at h
      · rename_i hca
        cases h
        have hy := run_yield (P := P) (args := fi ++ xs.map (ev E)) hb (by simpa using hn)
        have hrun : (execOp (ev E) (⟨dst, .call ⟨.value x, xs, ts⟩, type, pos, after, guard⟩ : Oper)).run P w = .ok (.round l fn (setsE E' ps (fi.toList ++ xs.toList.map (ev E))).toArray assign body) w := by
          rw [← setsE_eq]
          have he : (fi.toList ++ xs.toList.map (ev E)).toArray = fi ++ xs.map (ev E) := Array.ext' (by simp)
          rw [he]
          simpa [execOp, resolve, hv, Deferred.ofValue, invoke] using hy
        unfold opK
        rw [Oper.semAt_eq _ _ _ (by simp), ac_eval, hrun, Oper.uponIn_round]
        refine ⟨fun h => by simp [FW, Fence.wide] at h, ?_⟩
        refine roundIn_of_wpIn trivial ?_
        have hk1 := hk (fun e w' => match e with | .returned v => K (ac (putE E dst v) ds) w' | _ => False) (fun v w' h => h)
        refine wpIn_mono (show assign.wpIn ((FW rd).inRound l) 0 P _ ⟨(setsE E' ps (fi.toList ++ xs.toList.map (ev E))).toArray, []⟩ w from hk1) ?_
        intro e a1 w1 hq
        cases e with
        | normal =>
          obtain ⟨w2, h2, h3⟩ := hq
          refine ⟨w2, h2, wpIn_mono (show body.wpIn ((FW rd).inRound l) 0 P _ _ w2 from h3) ?_⟩
          have conv : ∀ (j : Option Code) (w3 : World), (∃ v w', (Instr.endRound l j).run P w3 = .ok v w' ∧ (match (Ending.returned v) with | .returned v => K (ac (putE E dst v) ds) w' | _ => False)) →
              ∃ v w', (Instr.endRound l j).run P w3 = .ok v w' ∧ (fun (e : Ending) w'' => match e with
                | .returned v => K ((ac E ds).put dst v) w''
                | .panicked chain => F0 (.panic chain) (ac E ds) w''
                | .outgrown => LetsOut F0) (.returned v) w' := by
            rintro j w3 ⟨v, w', h4, h5⟩
            refine ⟨v, w', h4, ?_⟩
            simp only [ac_put]
            exact h5
          intro e a2 w3 hq
          cases e <;> first | exact conv _ _ hq | exact hq.elim
        | _ => exact hq.elim
      · cases h
    · cases h
  · cases h
theorem RoundBeg.of {l i : Nat} {R : Ending → World → Prop} {E' : List Value} {ps : List Tmp} {assign body : Code} {rec : LoopState → Option Code → Obj} (hr : IsRec rec E' ps assign body) (s : St w0 M I L w)
    (hL : L[i]? = some (.blk l (rec .ready none))) (hk : ∀ w2, St w0 M I (L.set i (.blk l (rec .busy none))) w2 → Kp I w I w2 → WPK (some l) P body (fun _ _ w => RoundEnd P l R none w) (roundQ P l R) E ds w2) : RoundBeg P l body R E ds w := by
  obtain ⟨fn, D, hr⟩ := hr
  have hb : w.heap[l]? = some (rec .ready none) := s.at hL
  rw [hr] at hb
  refine ⟨_, run_beginRound hb rfl, ?_⟩
  have h1 := hk _ (by have := s.putObj (o' := rec .busy none) hL; rw [hr .busy none] at this ⊢; exact this) (Kp.putObj s hL)
  refine wpIn_mono h1 fun e a w' hq => ?_
  cases e <;> exact hq
theorem RoundEnd.of {l i : Nat} {R : Ending → World → Prop} {E' : List Value} {ps : List Tmp} {assign body : Code} {rec : LoopState → Option Code → Obj} {pe : Option Code} (j : Option Code) (hr : IsRec rec E' ps assign body) (s : St w0 M I L w)
    (hL : L[i]? = some (.blk l (rec .busy pe))) (hk : ∀ w2, St w0 M I (L.set i (.blk l (rec (if j.isNone then .ready else .done) j))) w2 → Kp I w I w2 → R (.returned (.bool j.isNone)) w2) : RoundEnd P l R j w := by
  obtain ⟨fn, D, hr⟩ := hr
  have hb : w.heap[l]? = some (rec .busy pe) := s.at hL
  rw [hr] at hb
  refine ⟨_, _, run_endRound j hb, ?_⟩
  exact hk _ (by have := s.putObj (o' := rec (if j.isNone then .ready else .done) j) hL; rw [hr (if j.isNone then .ready else .done) j] at this ⊢; exact this) (Kp.putObj s hL)
theorem RoundEnd.next {l i : Nat} {R : Ending → World → Prop} {E' : List Value} {ps : List Tmp} {assign body : Code} {rec : LoopState → Option Code → Obj} {pe : Option Code} (hr : IsRec rec E' ps assign body) (s : St w0 M I L w)
    (hL : L[i]? = some (.blk l (rec .busy pe))) (hk : ∀ w2, St w0 M I (L.set i (.blk l (rec .ready none))) w2 → Kp I w I w2 → R (.returned (.bool true)) w2) : RoundEnd P l R none w := RoundEnd.of none hr s hL hk
theorem RoundEnd.stop {l i : Nat} {R : Ending → World → Prop} {E' : List Value} {ps : List Tmp} {assign body : Code} {rec : LoopState → Option Code → Obj} {pe : Option Code} (c : Code) (hr : IsRec rec E' ps assign body) (s : St w0 M I L w)
    (hL : L[i]? = some (.blk l (rec .busy pe))) (hk : ∀ w2, St w0 M I (L.set i (.blk l (rec .done (some c)))) w2 → Kp I w I w2 → R (.returned (.bool false)) w2) : RoundEnd P l R (some c) w := RoundEnd.of (some c) hr s hL hk
/-! ### The end of a function that holds ranges over functions -/
/-- The marks are taken, one behind the other; then the results are read. -/
theorem Fin.mark {fn : Func} {R : Value → World → Prop} {i d : Nat} (s : St w0 M I L w) (hL : L[i]? = some (.blk d (.deferred (some []))))
    (h : ∀ w1, St w0 M I (L.eraseIdx i) w1 → Kp I w I w1 → Fin P fn R E ds w1) : Fin P fn R E (mk d :: ds) w := by
  unfold Fin
  unfold LeavesInM
  refine ⟨by simp, .inl ⟨d, _, rfl, run_takeDeferred (s.at hL), ?_⟩⟩
  have s2 := (s.putObj (o' := .deferred none) hL).drop i
  rw [eraseSet] at s2
  exact h _ s2 (Kp.putObj s hL)
end Go.SX
