/- SX, part e: a region that draws its order: what may be done first is done first; S holds behind every operation but the last ones (from m on), which wait for all others. -/
import Derived.Test.YtclnddebhjjpfaaDoorSXd
namespace Go.SX
open Go Go.RowKit
variable {rd : Option Nat} {P : Program} {T : Tb} {E : List Value} {ds : List Deferred} {w : World} {ops : Array Oper} {K : Act → World → Prop} {S : World → Prop} {m : Nat}

abbrev MD : Region.Mode := .any
def opI (rd : Option Nat) (P : Program) (ops : Array Oper) (i : Nat) (K : Act → World → Prop) (a : Act) (w : World) : Prop :=
  match ops[i]? with
  | none => K a w
  | some o => if Region.wanted o (yielded ops a.tmps) then opK rd P o K a w else K (a.put o.dst undef) w
theorem opI_mono {i : Nat} {a : Act} {K' : Act → World → Prop} (h : ∀ a w, K a w → K' a w) (hh : opI rd P ops i K a w) : opI rd P ops i K' a w := by
  unfold opI at *
  split
  · rename_i ho; simp only [ho] at hh; exact h _ _ hh
  · rename_i o ho
    simp only [ho] at hh
    split
    · rename_i hw; rw [if_pos hw] at hh; exact opK_mono h hh
    · rename_i hw; rw [if_neg hw] at hh; exact h _ _ hh
theorem opI_wp {i : Nat} {a : Act} {Q : Exit → Act → World → Prop} (hh : opI rd P ops i K a w) : wpOpIn (FW rd) 0 P ops Q i K a w := by
  unfold opI at hh
  unfold wpOpIn
  split
  · rename_i ho; simp only [ho] at hh; exact hh
  · rename_i o ho
    simp only [ho] at hh
    split
    · rename_i hw; rw [if_pos hw] at hh; exact opK_wp hh
    · rename_i hw; rw [if_neg hw] at hh; exact ⟨fun _ _ => trivial, hh⟩

/-- Whatever order is picked from here on. -/
def Any (rd : Option Nat) (P : Program) (ops : Array Oper) (K : Act → World → Prop) (S : World → Prop) (m : Nat) : Nat → Array Bool → Act → World → Prop
  | 0, listed, a, w => Region.ready MD ops listed = [] ∧ K a w
  | fuel + 1, listed, a, w => (Region.ready MD ops listed = [] → K a w) ∧
    ∀ i ∈ Region.ready MD ops listed, opI rd P ops i (fun a' w' => (i < m → S w') ∧ Any rd P ops K S m fuel (listed.setIfInBounds i true) a' w') a w
theorem Any.wp {Q : Exit → Act → World → Prop} (hQ : ∀ a w, K a w → Q .normal a w) : ∀ (fuel : Nat) (listed : Array Bool) (a : Act) (w : World), Any rd P ops K S m fuel listed a w → wpAnyIn (FW rd) 0 P MD ops Q fuel listed a w
  | 0, _, _, _, h => ⟨h.1, hQ _ _ h.2⟩
  | fuel + 1, _, _, _, h => ⟨fun h0 => hQ _ _ (h.1 h0), fun i hi => opI_wp (opI_mono (fun _ _ h' => Any.wp hQ fuel _ _ _ h'.2) (h.2 i hi))⟩

/-- In every world that meets S the operation yields v and leaves the world alone; or it is passed over. -/
def Yi (P : Program) (ops : Array Oper) (S : World → Prop) (o : Oper) (v : Value) (a : Act) : Prop :=
  ((∀ c, o.op ≠ .defer c) ∧ Region.wanted o (yielded ops a.tmps) = true ∧ ∀ w, S w → (execOp a.eval o).run P w = .ok (.value v) w) ∨
  (Region.wanted o (yielded ops a.tmps) = false ∧ v = undef)
theorem Yi.opI {i : Nat} {o : Oper} {v : Value} {a : Act} (hi : ops[i]? = some o) (hy : Yi P ops S o v a) (hS : S w) (h : K (a.put o.dst v) w) : opI rd P ops i K a w := by
  unfold SX.opI
  simp only [hi]
  rcases hy with ⟨hd, hw, hv⟩ | ⟨hw, rfl⟩
  · simp only [hw, if_true, opK]
    rw [Oper.semAt_eq _ _ _ hd, hv w hS, Oper.uponIn_value]
    exact h
  · simp only [hw, Bool.false_eq_true, if_false]; exact h
theorem Yi.same {o : Oper} {v : Value} {a a' : Act} (hy : Yi P ops S o v a) (he : execOp a'.eval o = execOp a.eval o)
    (hw : Region.wanted o (yielded ops a'.tmps) = Region.wanted o (yielded ops a.tmps)) : Yi P ops S o v a' := by
  unfold Yi at *
  rw [he, hw]
  exact hy
theorem semAt_put (o : Oper) (hs : ∀ cs b, o.op ≠ .select cs b) (hd : ∀ c, o.op ≠ .defer c) (a : Act) (dst : Option Tmp) (v : Value) (h : ∀ d, dst = some d → d ∉ o.looksAt ops) :
    o.semAt rd (a.put dst v).eval = o.semAt rd a.eval := by
  rw [Oper.semAt_eq _ _ _ hd, Oper.semAt_eq _ _ _ hd, execOp_put o hs a dst v h]
/-- 'oj', apart from 'oi': it makes no difference to it whether oi's value is there already. -/
theorem opI_put {j : Nat} {oi oj : Oper} {v : Value} (hj : ops[j]? = some oj) (hap : oi.apart ops oj = true)
    (hsi : ∀ cs b, oi.op ≠ .select cs b) (hsj : ∀ cs b, oj.op ≠ .select cs b) (hdj : ∀ c, oj.op ≠ .defer c)
    {a : Act} (hy : Yi P ops S oi v a) (h : opI rd P ops j K (a.put oi.dst v) w) :
    opI rd P ops j (fun a' w' => Yi P ops S oi v a' ∧ K (a'.put oi.dst v) w') a w := by
  obtain ⟨h1, h2, h3⟩ := Oper.apart_spec hap
  have keep : ∀ u, Yi P ops S oi v (a.put oj.dst u) := fun u => hy.same (execOp_put oi hsi a oj.dst u h3) (wanted_put oi a oj.dst u h3)
  unfold opI at *
  simp only [hj] at *
  rw [wanted_put oj a oi.dst v h1] at h
  split
  · rename_i hw
    rw [if_pos hw] at h
    unfold opK at *
    rw [semAt_put oj hsj hdj a oi.dst v h1] at h
    rw [Oper.semAt_eq _ _ _ hdj] at *
    generalize (execOp a.eval oj).run P w = r at *
    cases r with
    | ok n w' =>
      cases n <;> simp only [Oper.uponIn] at h ⊢
      case value u => exact ⟨keep u, by rw [← Act.put_comm a v u h2]; exact h⟩
      case skip => exact ⟨keep _, by rw [← Act.put_comm a v undef h2]; exact h⟩
      case defer d =>
        refine ⟨?_, ?_⟩
        · have k1 : Yi P ops S oi v { a with defers := d :: a.defers } := hy.same rfl rfl
          exact k1.same (execOp_put oi hsi _ oj.dst undef h3) (wanted_put oi _ oj.dst undef h3)
        · rw [← Act.put_comm _ v undef h2, ← Act.put_defers]
          exact h
      case enter f args =>
        refine ⟨h.1, h.2.mono fun e w'' he => ?_⟩
        cases e with
        | returned u => exact ⟨keep u, by rw [← Act.put_comm a v u h2]; exact he⟩
        | panicked c => exact he.elim
        | outgrown => exact he
      case row row args => exact ⟨h.1, h.2.mono fun u w'' he => ⟨keep u, by rw [← Act.put_comm a v u h2]; exact he⟩⟩
      case round l f tmps assign body =>
        refine ⟨h.1, h.2.mono fun e w'' he => ?_⟩
        cases e with
        | returned u => exact ⟨keep u, by rw [← Act.put_comm a v u h2]; exact he⟩
        | panicked c => exact he.elim
        | outgrown => exact he
    | halt x w' => cases x <;> simp only [Oper.uponIn] at h ⊢ <;> exact h
  · rename_i hw
    rw [if_neg hw] at h
    exact ⟨keep _, by rw [← Act.put_comm a v undef h2]; exact h⟩
def waits (o : Oper) (i : Nat) : Bool := o.after.any fun e => Region.binds MD e && e.on == i
/-- Any two operations below m wait for one another or are apart; those from m on wait for all below m. -/
def tidy (ops : Array Oper) (m : Nat) : Bool :=
  (List.range ops.size).all fun j => match ops[j]? with
    | none => true
    | some oj => (match oj.op with | .select .. => false | .defer _ => false | _ => true) &&
      (List.range m).all fun i => i == j || waits oj i || (j < m && match ops[i]? with
        | none => true
        | some oi => waits oi j || oi.apart ops oj)
theorem tidy_op {j : Nat} {o : Oper} (h : tidy ops m = true) (hj : ops[j]? = some o) : (∀ cs b, o.op ≠ .select cs b) ∧ ∀ c, o.op ≠ .defer c := by
  have hlt : j < ops.size := (Array.getElem?_eq_some_iff.1 hj).1
  have := List.all_eq_true.1 h j (List.mem_range.2 hlt)
  simp only [hj, Bool.and_eq_true] at this
  constructor
  · intro cs b hc; rw [hc] at this; simp at this
  · intro c hc; rw [hc] at this; simp at this
theorem tidy_pair {i j : Nat} {oi oj : Oper} (h : tidy ops m = true) (hi : ops[i]? = some oi) (hj : ops[j]? = some oj) (him : i < m) (hne : j ≠ i) :
    waits oj i = true ∨ (j < m ∧ (waits oi j = true ∨ oi.apart ops oj = true)) := by
  have hlt : j < ops.size := (Array.getElem?_eq_some_iff.1 hj).1
  have := List.all_eq_true.1 h j (List.mem_range.2 hlt)
  simp only [hj, Bool.and_eq_true] at this
  have := List.all_eq_true.1 this.2 i (List.mem_range.2 him)
  simp only [hi, Bool.or_eq_true, Bool.and_eq_true, decide_eq_true_eq, beq_iff_eq] at this
  rcases this with (h1 | h1) | h1
  · exact absurd h1.symm hne
  · exact .inl h1
  · exact .inr h1
theorem waits_not {o : Oper} {i : Nat} {listed : Array Bool} (hw : waits o i = true) (h : ∀ e ∈ o.after, Region.binds MD e = true → listed.getD e.on false = true) : listed.getD i false = true := by
  obtain ⟨e, he, hb⟩ := Array.any_eq_true'.1 hw
  simp only [Bool.and_eq_true, beq_iff_eq] at hb
  have := h e he hb.1
  rwa [hb.2] at this
theorem getD_tf {listed : Array Bool} {i : Nat} (h : listed.getD i false = true) : listed.getD i true = true := by
  rcases Nat.lt_or_ge i listed.size with h' | h'
  · simp [h'] at h ⊢; exact h
  · simp [Array.getElem?_eq_none h'] at h ⊢
/-- Number i, below m, may be taken first. -/
theorem Any.first {i : Nat} {oi : Oper} {v : Value} (ht : tidy ops m = true) (him : i < m) (hi : ops[i]? = some oi) :
    ∀ (fuel : Nat) (listed : Array Bool) (a : Act) (w : World), i ∈ Region.ready MD ops listed → Yi P ops S oi v a → S w →
      Any rd P ops K S m fuel (listed.setIfInBounds i true) (a.put oi.dst v) w → Any rd P ops K S m (fuel + 1) listed a w := by
  intro fuel
  induction fuel with
  | zero =>
    intro listed a w hr hy hS H
    refine ⟨fun h => (by rw [h] at hr; cases hr), fun j hj => ?_⟩
    by_cases hji : j = i
    · subst hji; exact hy.opI hi hS ⟨fun _ => hS, H⟩
    · have := ready_mono hj hji
      rw [H.1] at this
      cases this
  | succ fuel ih =>
    intro listed a w hr hy hS H
    refine ⟨fun h => (by rw [h] at hr; cases hr), fun j hj => ?_⟩
    by_cases hji : j = i
    · subst hji; exact hy.opI hi hS ⟨fun _ => hS, H⟩
    · have h1 := H.2 j (ready_mono hj hji)
      obtain ⟨hjun, oj, hoj, hall⟩ := mem_ready.1 hj
      obtain ⟨hiun, oi', hoi', halli⟩ := mem_ready.1 hr
      rw [hi] at hoi'; cases hoi'
      have hcase : j < m ∧ oi.apart ops oj = true := by
        rcases tidy_pair ht hi hoj him hji with hw | ⟨hjm, hw | hw⟩
        · have := getD_tf (waits_not hw hall); rw [this] at hiun; cases hiun
        · have := getD_tf (waits_not hw halli); rw [this] at hjun; cases hjun
        · exact ⟨hjm, hw⟩
      have h2 := opI_put hoj hcase.2 (tidy_op ht hi).1 (tidy_op ht hoj).1 (tidy_op ht hoj).2 hy h1
      refine opI_mono (fun a' w' h3 => ⟨h3.2.1, ih (listed.setIfInBounds j true) a' w' (ready_mono hr (Ne.symm hji)) h3.1 (h3.2.1 hcase.1) ?_⟩) h2
      rw [Array.setIfInBounds_comm _ _ hji]
      exact h3.2.2

/-! ### The moves, over lists -/
section
variable {ops : List Oper} {K : Kont}
def isReady (ops : List Oper) (listed : List Bool) (i : Nat) : Bool :=
  !listed.getD i true && ((ops[i]?).map (·.after.toList.all fun e => !Region.binds MD e || listed.getD e.on false)).getD false
theorem ready_iff {listed : List Bool} {i : Nat} : i ∈ Region.ready MD ops.toArray listed.toArray ↔ isReady ops listed i = true := by
  unfold Region.ready isReady
  rw [List.mem_filter, List.mem_range]
  simp only [List.getElem?_toArray, List.size_toArray]
  constructor
  · rintro ⟨_, h⟩
    simpa using h
  · intro h
    refine ⟨?_, by simpa using h⟩
    cases ho : ops[i]? with
    | none => simp [ho] at h
    | some o => exact (List.getElem?_eq_some_iff.1 ho).1
def left (listed : List Bool) : Nat := listed.countP (!·)
theorem left_set {listed : List Bool} {i : Nat} (h : listed.getD i true = false) : left listed = left (listed.set i true) + 1 := by
  induction listed generalizing i with
  | nil => simp at h
  | cons b l ih =>
    cases i with
    | zero => simp only [List.getD_cons_zero] at h; subst h; simp [left]
    | succ i =>
      simp only [List.getD_cons_succ] at h
      have := ih h
      simp only [left, List.set_cons_succ, List.countP_cons] at *
      omega
def RD (rd : Option Nat) (P : Program) (ops : List Oper) (K : Kont) (S : World → Prop) (m : Nat) (listed : List Bool) (E : List Value) (ds : List Deferred) (w : World) : Prop :=
  Any rd P ops.toArray (fun a w => K a.tmps.toList a.defers w) S m (left listed) listed.toArray (ac E ds) w
/-- Behind a draw: the heap as it was. -/
structure Dr (w w1 : World) : Prop where
  heap : w1.heap = w.heap
  below : Below w.heap.size w w1
theorem WPK.draw {id : Nat} {Q : Post} (S : World → Prop) (m : Nat) (hm : P.follows .mixedOrders = true)
    (h : ∀ w1, Dr w w1 → RD rd P ops K S m (List.replicate ops.length false) E ds w1) : WPK rd P (.region id ops.toArray true) K Q E ds w := by
  have h0 := h w.drew ⟨rfl, (Below.refl _ w).drew⟩
  refine wpIn_region_any hm ?_
  have hl : left (List.replicate ops.length false) = ops.length := by simp [left, List.countP_replicate]
  unfold RD at h0
  rw [hl] at h0
  have := Any.wp (Q := joinQ K Q) (fun _ _ h => h) _ _ _ _ h0
  simpa [ac] using this
theorem RD.done {listed : List Bool} (h : listed.all (fun b => b) = true) (hk : K E ds w) : RD rd P ops K S m listed E ds w := by
  have h0 : left listed = 0 := by
    unfold left
    rw [List.countP_eq_zero]
    intro b hb
    simp [List.all_eq_true.1 h b hb]
  unfold RD
  rw [h0]
  refine ⟨?_, hk⟩
  rw [List.eq_nil_iff_forall_not_mem]
  intro i hi
  rw [ready_iff] at hi
  unfold isReady at hi
  simp only [Bool.and_eq_true] at hi
  have h1 := hi.1
  rcases Nat.lt_or_ge i listed.length with hlt | hge
  · have := List.all_eq_true.1 h listed[i] (List.getElem_mem hlt)
    simp [List.getD_eq_getElem?_getD, hlt, this] at h1
  · simp [List.getD_eq_getElem?_getD, List.getElem?_eq_none hge] at h1
theorem RD.first {i : Nat} {o : Oper} {v : Value} {listed : List Bool} (ht : tidy ops.toArray m = true) (him : i < m) (hi : ops[i]? = some o) (hr : isReady ops listed i = true)
    (hy : Yi P ops.toArray S o v (ac E ds)) (hS : S w) (h : RD rd P ops K S m (listed.set i true) (putE E o.dst v) ds w) : RD rd P ops K S m listed E ds w := by
  have hun : listed.getD i true = false := by
    unfold isReady at hr
    simp only [Bool.and_eq_true, Bool.not_eq_true'] at hr
    exact hr.1
  unfold RD at *
  rw [left_set hun]
  refine Any.first ht him (by simpa using hi) _ _ _ _ (ready_iff.2 hr) hy hS ?_
  rw [ac_put]
  simpa using h
/-- Operations that leave the world alone, by their numbers, as they may come up. -/
def runD (T : Tb) (ops : List Oper) (m : Nat) : List Nat → List Bool → List Value → List Value → List (Nat × Value) → Option (List Value × List C)
  | [], _, _, _, _ => some ([], [])
  | i :: is, listed, E, ld, ov =>
    match ops[i]?, decide (i < m) && isReady ops listed i with
    | some o, true =>
      match want ops E o with
      | false => match runD T ops m is (listed.set i true) (putE E o.dst undef) ld ov with
        | none => none
        | some (vs, cs) => some (undef :: vs, cs)
      | true =>
        match stepOp T E o.op (if isLoad o.op then ld.headD undef else undef) with
        | none => none
        | some (v, c) =>
          match runD T ops m is (listed.set i true) (putE E o.dst (over o.dst v c ov).1) (if isLoad o.op then ld.tail else ld) ov with
          | none => none
          | some (vs, cs) => some ((over o.dst v c ov).1 :: vs, consC (over o.dst v c ov).2 cs)
    | _, _ => none
def putsD (ops : List Oper) (E : List Value) : List Nat → List Value → List Value
  | i :: is, v :: vs => putsD ops (putE E ((ops[i]?).bind (·.dst)) v) is vs
  | _, _ => E
def setD (listed : List Bool) : List Nat → List Bool
  | i :: is => setD (listed.set i true) is
  | [] => listed
theorem RD.seg (hT : Tb.ok P T) (ht : tidy ops.toArray m = true) : ∀ (is : List Nat) {listed : List Bool} {E : List Value} (ld : List Value) (ov : List (Nat × Value)) (vs : List Value) (cs : List C),
    runD T ops m is listed E ld ov = some (vs, cs) → (∀ w, S w → AllC w cs) → S w → RD rd P ops K S m (setD listed is) (putsD ops E is vs) ds w → RD rd P ops K S m listed E ds w := by
  intro is
  induction is with
  | nil => intro listed E ld ov vs cs h _ _ hk; simpa [putsD, setD] using hk
  | cons i is ih =>
    intro listed E ld ov vs cs h hc hS hk
    simp only [runD] at h
    split at h
    · rename_i o ho hb
      simp only [Bool.and_eq_true, decide_eq_true_eq] at hb
      split at h
      · rename_i hw
        split at h
        · cases h
        · rename_i vs' cs' hr
          cases h
          refine RD.first ht hb.1 ho hb.2 (v := undef) (.inr ⟨by rw [want_ok, hw], rfl⟩) hS ?_
          simp only [putsD, setD, ho, Option.bind_some] at hk
          exact ih ld ov vs' cs hr hc hS hk
      · rename_i hw
        split at h
        · cases h
        · rename_i v c hs
          split at h
          · cases h
          · rename_i vs'' cs'' hr
            cases h
            have h1 : ∀ w, S w → c.holds w := fun w hw => (over_ok (c' := (over o.dst v c ov).2) (v' := (over o.dst v c ov).1) rfl (hc w hw).cons.1).2
            have h3 := (over_ok (c' := (over o.dst v c ov).2) (v' := (over o.dst v c ov).1) rfl (hc w hS).cons.1).1
            simp only [putsD, setD, ho, Option.bind_some] at hk
            rw [h3] at hr hk
            refine RD.first ht hb.1 ho hb.2 (v := v) (.inl ⟨(stepOp_nodefer hs).1, by rw [want_ok, hw], fun w hw => ?_⟩) hS ?_
            · rw [ac_eval]; exact stepOp_ok hT hs (h1 w hw)
            · exact ih _ ov vs'' cs'' hr (fun w hw => (hc w hw).cons.2) hS hk
    · cases h
def only (ops : List Oper) (listed : List Bool) (i : Nat) : Bool := isReady ops listed i && (List.range ops.length).all fun j => !isReady ops listed j || j == i
theorem RD.one {i : Nat} {o : Oper} {listed : List Bool} (hi : ops[i]? = some o) (ho : only ops listed i = true) (hw : want ops E o = true)
    (h : opK rd P o (fun a' w' => (i < m → S w') ∧ Any rd P ops.toArray (fun a w => K a.tmps.toList a.defers w) S m (left (listed.set i true)) (listed.set i true).toArray a' w') (ac E ds) w) :
    RD rd P ops K S m listed E ds w := by
  unfold only at ho
  simp only [Bool.and_eq_true] at ho
  obtain ⟨hr, hall⟩ := ho
  have hun : listed.getD i true = false := by
    have hr' := hr
    unfold isReady at hr'
    simp only [Bool.and_eq_true, Bool.not_eq_true'] at hr'
    exact hr'.1
  unfold RD
  rw [left_set hun]
  refine ⟨fun h0 => ?_, fun j hj => ?_⟩
  · have := ready_iff.2 hr
    rw [h0] at this
    cases this
  · have hjr := ready_iff.1 hj
    have hlt : j < ops.length := by
      have : j ∈ Region.ready MD ops.toArray listed.toArray := hj
      unfold Region.ready at this
      rw [List.mem_filter, List.mem_range] at this
      simpa using this.1
    have hji : j = i := by
      have := List.all_eq_true.1 hall j (List.mem_range.2 hlt)
      simpa [hjr] using this
    subst hji
    unfold opI
    simp only [List.getElem?_toArray, hi]
    rw [want_ok, hw]
    simpa using h
theorem RD.eff {i : Nat} {o : Oper} {listed : List Bool} {v : Value} {w' : World} (hi : ops[i]? = some o) (ho : only ops listed i = true) (hw : want ops E o = true) (hd : ∀ c, o.op ≠ .defer c)
    (h : (execOp (ev E) o).run P w = .ok (.value v) w') (hS : i < m → S w') (hk : RD rd P ops K S m (listed.set i true) (putE E o.dst v) ds w') : RD rd P ops K S m listed E ds w := by
  refine RD.one hi ho hw ?_
  unfold opK
  rw [Oper.semAt_eq _ _ _ hd, ac_eval, h, Oper.uponIn_value, ac_put]
  exact ⟨hS, hk⟩
theorem RD.effS {i : Nat} {o : Oper} {listed : List Bool} {w' : World} (hi : ops[i]? = some o) (ho : only ops listed i = true) (hw : want ops E o = true) (hd : ∀ c, o.op ≠ .defer c)
    (h : (execOp (ev E) o).run P w = .ok .skip w') (hS : i < m → S w') (hk : RD rd P ops K S m (listed.set i true) (putE E o.dst undef) ds w') : RD rd P ops K S m listed E ds w := by
  refine RD.one hi ho hw ?_
  unfold opK
  rw [Oper.semAt_eq _ _ _ hd, ac_eval, h, Oper.uponIn_skip, ac_put]
  exact ⟨hS, hk⟩
theorem RD.call {i : Nat} {o : Oper} {listed : List Bool} {f : Nat} {args : List Value} {R : Value → World → Prop} (hi : ops[i]? = some o) (ho : only ops listed i = true) (hw : want ops E o = true)
    (he : Proofs.Enters P f) (h : calleeV E o.op = some (f, args)) (hc : Ret P f args w R)
    (hk : ∀ v w', R v w' → (i < m → S w') ∧ RD rd P ops K S m (listed.set i true) (putE E o.dst v) ds w') : RD rd P ops K S m listed E ds w :=
  RD.one hi ho hw (opK_call he h hc hk)
end
end Go.SX
