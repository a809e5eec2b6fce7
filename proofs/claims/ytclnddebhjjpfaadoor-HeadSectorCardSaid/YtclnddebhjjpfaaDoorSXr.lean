/- SX, part r: scopes of labels (without a goto); arrays as values; strings as bytes. -/
import Derived.Test.YtclnddebhjjpfaaDoorSXq
import Derived.ScopeJumps
namespace Go.SX
open Go Go.RowKit
variable {rd : Option Nat} {P : Program} {T : Tb} {K : Kont} {Q : Post} {E : List Value} {ds : List Deferred} {w w0 w1 : World} {M I : Nat → Prop} {L : List It}

def scopeQ (Q : Post) : Post
  | .goto _, _, _, _ => False
  | x, E, ds, w => Q x E ds w
theorem scopeQ.ex {id : Nat} (h : Q (.exit id) E ds w) : scopeQ Q (.exit id) E ds w := h
theorem scopeQ.ret (h : Q .ret E ds w) : scopeQ Q .ret E ds w := h
theorem stepR_scope {b : Frame} {a : Act} {k : List Item} {cs : List Frame} {c : Code} : step P (lone (b.atR a (.code (.scope c) :: k)) cs w) = .next (lone (b.atR a (.code c :: .inScope c :: k)) cs w) :=
  step_lone_go (by simp [stepG, stepG.exec, Frame.atR])
theorem stepR_inScope {b : Frame} {a : Act} {k : List Item} {cs : List Frame} {c : Code} : step P (lone (b.atR a (.inScope c :: k)) cs w) = .next (lone (b.atR a k) cs w) :=
  step_lone_go (by simp [stepG, stepG.exec, Frame.atR])
theorem WPK.scope {c : Code} (h : WPK rd P c K (scopeQ Q) E ds w) : WPK rd P (.scope c) K Q E ds w := by
  intro b k cs hro hb hr
  have h0 : (lone (b.atR ⟨E.toArray, ds⟩ (.code (.scope c) :: k)) cs w).fenced P (FW rd) := fenced_calm hb hr rfl
  obtain ⟨e, a₁, w₁, hq, harr⟩ := h b (.inScope c :: k) cs hro hb hr
  cases e with
  | normal => exact ⟨.normal, a₁, w₁, hq, .head h0 stepR_scope (StepsIn.trans harr (.one (fenced_calm hb hr rfl) stepR_inScope))⟩
  | exit id =>
    have hx : exitTo id (.inScope c :: k) = exitTo id k := by simp [exitTo]
    exact ⟨.exit id, a₁, w₁, hq, fun k' hk => .head h0 stepR_scope (harr.1 k' (by rw [hx]; exact hk)),
      fun hr' hk => let ⟨k₁, h1, h2⟩ := harr.2 hr' (by rw [hx]; exact hk); ⟨k₁, h1, .head h0 stepR_scope h2⟩⟩
  | goto l => exact hq.elim
  | ret => exact ⟨.ret, a₁, w₁, hq, fun hr => let ⟨todo, hs⟩ := harr.1 hr; ⟨todo, (StepsIn.one h0 stepR_scope).trans hs⟩, fun hr => let ⟨k₁, hs⟩ := harr.2 hr; ⟨k₁, (StepsIn.one h0 stepR_scope).trans hs⟩⟩
  | panic ch => exact ⟨.panic ch, a₁, w₁, hq, .of_steps (.one h0 stepR_scope) harr⟩
  | outgrown => exact ⟨.outgrown, a₁, w₁, hq, harr.imp id (Outgrown.of_steps (.one stepR_scope))⟩
end Go.SX
namespace Go.SX
open Go Go.RowKit
variable {rd : Option Nat} {P : Program} {T : Tb} {K : Kont} {Q : Post} {E : List Value} {ds : List Deferred} {w w0 w1 : World} {M I : Nat → Prop} {L : List It}
/-! ### The same rules, with what comes next kept out of sight -/
theorem WPK.cut' {c : Code} (J : Kont) (hJ : ∀ X : Kont, (∀ E ds w, K E ds w → X E ds w) → ∀ E ds w, J E ds w → X E ds w) (h : WPK rd P c J Q E ds w) : WPK rd P c K Q E ds w :=
  WPK.cut J (hJ K fun _ _ _ h => h) h
theorem WPK.loop' {c : Code} {J : Nat → Kont} (n : Nat) (h0 : J n E ds w) (hz : ∀ E ds w, J 0 E ds w → False)
    (round : ∀ (X : Nat → Kont), (∀ n E ds w, WPK rd P c (fun E ds w => ∃ m, m ≤ n ∧ J m E ds w) Q E ds w → X n E ds w) → ∀ n E ds w, J (n + 1) E ds w → X n E ds w) : WPK rd P (.loop c) K Q E ds w :=
  WPK.loop n h0 hz (round (fun n E ds w => WPK rd P c (fun E ds w => ∃ m, m ≤ n ∧ J m E ds w) Q E ds w) fun _ _ _ _ h => h)
theorem OK.call' {o : Oper} {f : Nat} {args : List Value} {R : Value → World → Prop} {K : Act → World → Prop} (he : Proofs.Enters P f) (h : calleeV E o.op = some (f, args)) (hc : Ret P f args w R)
    (hk : ∀ X : Value → World → Prop, (∀ v w', K (ac (putE E o.dst v) ds) w' → X v w') → ∀ v w', R v w' → X v w') : opK rd P o K (ac E ds) w :=
  OK.call he h hc (hk _ fun _ _ h => h)
end Go.SX
namespace Go.SX
open Go Go.RowKit
theorem kc {X : Kont} {E E' : List Value} {ds ds' : List Deferred} {w : World} (hE : E = E') (hd : ds = ds') (h : X E' ds' w) : X E ds w := by rw [hE, hd]; exact h
theorem vc {X : Value → World → Prop} {v v' : Value} {w : World} (hv : v = v') (h : X v' w) : X v w := by rw [hv]; exact h
end Go.SX
