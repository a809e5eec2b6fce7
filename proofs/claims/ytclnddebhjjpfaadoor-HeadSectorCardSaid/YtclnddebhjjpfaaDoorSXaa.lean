/- SX, part aa: regions that draw: what waits for another one through others; a slice of one's own made shorter. -/
import Derived.Test.YtclnddebhjjpfaaDoorSXz
namespace Go.SX
open Go Go.RowKit
variable {rd : Option Nat} {P : Program} {T : Tb} {E : List Value} {ds : List Deferred} {w : World} {ops : Array Oper} {K : Act → World → Prop} {S : World → Prop} {m : Nat} {ms : List Nat}

def bitM (ms : List Nat) (j i : Nat) : Bool := (ms.getD j 0).testBit i
/-- ms tells, for each operation, for which ones it waits, through others too. -/
def validM (ops : Array Oper) (ms : List Nat) : Bool :=
  (List.range ops.size).all fun j => match ops[j]? with
    | none => true
    | some oj => (List.range ops.size).all fun i => !bitM ms j i || oj.after.any fun e => Region.binds MD e && (e.on == i || (decide (e.on < j) && bitM ms e.on i))
def tidyM (ops : Array Oper) (m : Nat) (ms : List Nat) : Bool :=
  validM ops ms && (List.range ops.size).all fun j => match ops[j]? with
    | none => true
    | some oj => (match oj.op with | .select .. => false | .defer _ => false | _ => true) &&
      (List.range m).all fun i => i == j || bitM ms j i || (j < m && match ops[i]? with
        | none => true
        | some oi => bitM ms i j || oi.apart ops oj)
def Closed (ops : Array Oper) (listed : Array Bool) : Prop := ∀ j o, listed.getD j false = true → ops[j]? = some o → ∀ e ∈ o.after, Region.binds MD e = true → listed.getD e.on false = true
theorem tidyM_valid (h : tidyM ops m ms = true) : validM ops ms = true := by
  unfold tidyM at h; rw [Bool.and_eq_true] at h; exact h.1
theorem tidyM_op {j : Nat} {o : Oper} (h : tidyM ops m ms = true) (hj : ops[j]? = some o) : (∀ cs b, o.op ≠ .select cs b) ∧ ∀ c, o.op ≠ .defer c := by
  have hlt : j < ops.size := (Array.getElem?_eq_some_iff.1 hj).1
  unfold tidyM at h
  rw [Bool.and_eq_true] at h
  have := List.all_eq_true.1 h.2 j (List.mem_range.2 hlt)
  simp only [hj, Bool.and_eq_true] at this
  constructor
  · intro cs b hc; rw [hc] at this; simp at this
  · intro c hc; rw [hc] at this; simp at this
theorem tidyM_pair {i j : Nat} {oi oj : Oper} (h : tidyM ops m ms = true) (hi : ops[i]? = some oi) (hj : ops[j]? = some oj) (him : i < m) (hne : j ≠ i) :
    bitM ms j i = true ∨ (j < m ∧ (bitM ms i j = true ∨ oi.apart ops oj = true)) := by
  have hlt : j < ops.size := (Array.getElem?_eq_some_iff.1 hj).1
  unfold tidyM at h
  rw [Bool.and_eq_true] at h
  have := List.all_eq_true.1 h.2 j (List.mem_range.2 hlt)
  simp only [hj, Bool.and_eq_true] at this
  have := List.all_eq_true.1 this.2 i (List.mem_range.2 him)
  simp only [hi, Bool.or_eq_true, Bool.and_eq_true, decide_eq_true_eq, beq_iff_eq] at this
  rcases this with (h1 | h1) | h1
  · exact absurd h1.symm hne
  · exact .inl h1
  · exact .inr h1
/-- What is waited for, through others too, is there. -/
theorem bitM_listed (hv : validM ops ms = true) {listed : Array Bool} (hc : Closed ops listed) : ∀ (j i : Nat) (o : Oper), ops[j]? = some o → (∀ e ∈ o.after, Region.binds MD e = true → listed.getD e.on false = true) → i < ops.size → bitM ms j i = true → listed.getD i false = true := by
  intro j
  induction j using Nat.strongRecOn with
  | _ j ih =>
    intro i o ho hall hi hb
    have hlt : j < ops.size := (Array.getElem?_eq_some_iff.1 ho).1
    have h1 := List.all_eq_true.1 hv j (List.mem_range.2 hlt)
    simp only [ho] at h1
    have h2 := List.all_eq_true.1 h1 i (List.mem_range.2 hi)
    rw [hb] at h2
    simp only [Bool.not_true, Bool.false_or] at h2
    obtain ⟨e, he, h3⟩ := Array.any_eq_true'.1 h2
    simp only [Bool.and_eq_true, Bool.or_eq_true, beq_iff_eq, decide_eq_true_eq] at h3
    obtain ⟨hbind, h4⟩ := h3
    have hl := hall e he hbind
    rcases h4 with rfl | ⟨h5, h6⟩
    · exact hl
    · cases hoe : ops[e.on]? with
      | none =>
        have : ops.size ≤ e.on := by
          rcases Nat.lt_or_ge e.on ops.size with h | h
          · simp [h] at hoe
          · exact h
        omega
      | some oe => exact ih e.on h5 i oe hoe (hc e.on oe hl hoe) hi h6
theorem getD_set_cases {listed : Array Bool} {i j : Nat} (h : (listed.setIfInBounds i true).getD j false = true) : j = i ∨ listed.getD j false = true := by
  by_cases hj : j = i
  · exact .inl hj
  · refine .inr ?_
    rwa [getD_set_ne false (Ne.symm hj)] at h
theorem Closed.set {listed : Array Bool} (hc : Closed ops listed) {i : Nat} (hr : i ∈ Region.ready MD ops listed) : Closed ops (listed.setIfInBounds i true) := by
  intro j o hj ho e he hb
  rcases getD_set_cases hj with rfl | hj
  · obtain ⟨_, o', ho', hall⟩ := mem_ready.1 hr
    rw [ho] at ho'; cases ho'
    exact getD_set_true (hall e he hb)
  · exact getD_set_true (hc j o hj ho e he hb)
theorem Any.firstM {i : Nat} {oi : Oper} {v : Value} (ht : tidyM ops m ms = true) (him : i < m) (hi : ops[i]? = some oi) :
    ∀ (fuel : Nat) (listed : Array Bool) (a : Act) (w : World), Closed ops listed → i ∈ Region.ready MD ops listed → Yi P ops S oi v a → S w →
      Any rd P ops K S m fuel (listed.setIfInBounds i true) (a.put oi.dst v) w → Any rd P ops K S m (fuel + 1) listed a w := by
  intro fuel
  induction fuel with
  | zero =>
    intro listed a w _ hr hy hS H
    refine ⟨fun h => (by rw [h] at hr; cases hr), fun j hj => ?_⟩
    by_cases hji : j = i
    · subst hji; exact hy.opI hi hS ⟨fun _ => hS, H⟩
    · have := ready_mono hj hji
      rw [H.1] at this
      cases this
  | succ fuel ih =>
    intro listed a w hcl hr hy hS H
    refine ⟨fun h => (by rw [h] at hr; cases hr), fun j hj => ?_⟩
    by_cases hji : j = i
    · subst hji; exact hy.opI hi hS ⟨fun _ => hS, H⟩
    · have h1 := H.2 j (ready_mono hj hji)
      obtain ⟨hjun, oj, hoj, hall⟩ := mem_ready.1 hj
      obtain ⟨hiun, oi', hoi', halli⟩ := mem_ready.1 hr
      rw [hi] at hoi'; cases hoi'
      have hv := tidyM_valid ht
      have hcase : j < m ∧ oi.apart ops oj = true := by
        rcases tidyM_pair ht hi hoj him hji with hw | ⟨hjm, hw | hw⟩
        · have := getD_tf (bitM_listed hv hcl j i oj hoj hall (Array.getElem?_eq_some_iff.1 hi).1 hw); rw [this] at hiun; cases hiun
        · have := getD_tf (bitM_listed hv hcl i j _ hi halli (Array.getElem?_eq_some_iff.1 hoj).1 hw); rw [this] at hjun; cases hjun
        · exact ⟨hjm, hw⟩
      have h2 := opI_put hoj hcase.2 (tidyM_op ht hi).1 (tidyM_op ht hoj).1 (tidyM_op ht hoj).2 hy h1
      refine opI_mono (fun a' w' h3 => ⟨h3.2.1, ih (listed.setIfInBounds j true) a' w' (hcl.set hj) (ready_mono hr (Ne.symm hji)) h3.1 (h3.2.1 hcase.1) ?_⟩) h2
      rw [Array.setIfInBounds_comm _ _ hji]
      exact h3.2.2
section
variable {ops : List Oper} {K : Kont}
def closedB (ops : List Oper) (listed : List Bool) : Bool := (List.range ops.length).all fun j => !listed.getD j false || ((ops[j]?).map (·.after.toList.all fun e => !Region.binds MD e || listed.getD e.on false)).getD true
theorem closedB_ok {listed : List Bool} (h : closedB ops listed = true) : Closed ops.toArray listed.toArray := by
  intro j o hj ho e he hb
  have ho' : ops[j]? = some o := by simpa using ho
  have hlt : j < ops.length := (List.getElem?_eq_some_iff.1 ho').1
  have h1 := List.all_eq_true.1 h j (List.mem_range.2 hlt)
  have hj' : listed.getD j false = true := by simpa using hj
  rw [hj', ho'] at h1
  simp only [Bool.not_true, Bool.false_or, Option.map_some, Option.getD_some] at h1
  have h2 := List.all_eq_true.1 h1 e (by simpa using he)
  rw [hb] at h2
  simpa using h2
theorem RD.firstM {i : Nat} {o : Oper} {v : Value} {listed : List Bool} (ht : tidyM ops.toArray m ms = true) (hcl : Closed ops.toArray listed.toArray) (him : i < m) (hi : ops[i]? = some o) (hr : isReady ops listed i = true)
    (hy : Yi P ops.toArray S o v (ac E ds)) (hS : S w) (h : RD rd P ops K S m (listed.set i true) (putE E o.dst v) ds w) : RD rd P ops K S m listed E ds w := by
  have hun : listed.getD i true = false := by
    unfold isReady at hr
    simp only [Bool.and_eq_true, Bool.not_eq_true'] at hr
    exact hr.1
  unfold RD at *
  rw [left_set hun]
  refine Any.firstM ht him (by simpa using hi) _ _ _ _ hcl (ready_iff.2 hr) hy hS ?_
  rw [ac_put]
  simpa using h
theorem RD.segM (hT : Tb.ok P T) (ht : tidyM ops.toArray m ms = true) {listed : List Bool} (hcl : closedB ops listed = true) (is : List Nat) : ∀ {E : List Value} (ld : List Value) (ov : List (Nat × Value)) (vs : List Value) (cs : List C),
    runD T ops m is listed E ld ov = some (vs, cs) → (∀ w, S w → AllC w cs) → S w → RD rd P ops K S m (setD listed is) (putsD ops E is vs) ds w → RD rd P ops K S m listed E ds w := by
  have hcl' := closedB_ok hcl
  clear hcl
  induction is generalizing listed with
  | nil => intro E ld ov vs cs h _ _ hk; simpa [putsD, setD] using hk
  | cons i is ih =>
    intro E ld ov vs cs h hc hS hk
    simp only [runD] at h
    split at h
    · rename_i o ho hb
      simp only [Bool.and_eq_true, decide_eq_true_eq] at hb
      have hcl2 : Closed ops.toArray (listed.set i true).toArray := by
        have := hcl'.set (ready_iff.2 hb.2)
        simpa using this
      split at h
      · rename_i hw
        split at h
        · cases h
        · rename_i vs' cs' hr
          cases h
          refine RD.firstM ht hcl' hb.1 ho hb.2 (v := undef) (.inr ⟨by rw [want_ok, hw], rfl⟩) hS ?_
          simp only [putsD, setD, ho, Option.bind_some] at hk
          exact ih hcl2 ld ov vs' cs hr hc hS hk
      · rename_i hw
        split at h
        · cases h
        · rename_i v c hs
          split at h
          · cases h
          · rename_i vs'' cs'' hr
            cases h
            have h1 : ∀ w, S w → c.holds w := fun w hw => (over_ok (c' := (over o.dst v c ov).2) (v' := (over o.dst v c ov).1) rfl (hc w hw).cons.1).2
            have h3 := (over_ok (c' := (over o.dst v c ov).2) (v' := (over o.dst v c ov).1) rfl (hc w hS).cons.1).1
            simp only [putsD, setD, ho, Option.bind_some] at hk
            rw [h3] at hr hk
            refine RD.firstM ht hcl' hb.1 ho hb.2 (v := v) (.inl ⟨(stepOp_nodefer hs).1, by rw [want_ok, hw], fun w hw => ?_⟩) hS ?_
            · rw [ac_eval]; exact stepOp_ok hT hs (h1 w hw)
            · exact ih hcl2 _ ov vs'' cs'' hr (fun w hw => (hc w hw).cons.2) hS hk
    · cases h
theorem WPK.drawM {id : Nat} {Q : Post} (S : World → Prop) (m : Nat) (ms : List Nat) (hm : P.follows .mixedOrders = true) (ht : tidyM ops.toArray m ms = true)
    (h : tidyM ops.toArray m ms = true → ∀ w1, Dr w w1 → RD rd P ops K S m (List.replicate ops.length false) E ds w1) : WPK rd P (.region id ops.toArray true) K Q E ds w :=
  WPK.draw S m hm (h ht)
end

/-! ### A slice of one's own, shorter -/
variable {w0 : World} {M I : Nat → Prop} {L : List It} {τ : Type} {r : Rp τ} {xs : List τ} {cl : List Value}
theorem RepL.takeN : ∀ (h : Nat) {cl : List Value} {xs : List τ}, RepL r I w cl xs → h ≤ xs.length → RepL r I w (cl.take (h * r.n)) (xs.take h)
  | 0, cl, xs, _, _ => by simp [RepL.nil]
  | h + 1, cl, [], _, hl => by simp at hl
  | h + 1, cl, x :: xs, hr, hl => by
    obtain ⟨c, d, rfl, h1, h2⟩ := hr
    have hn := r.len h1
    have ih := RepL.takeN h h2 (by simpa using hl)
    rw [show (h + 1) * r.n = c.length + h * r.n by rw [hn, Nat.succ_mul]; omega, List.take_length_add_append, List.take_succ_cons]
    exact ⟨c, d.take (h * r.n), rfl, h1, ih⟩
theorem St.shrink (s : St w0 M I L w) {i b c e size n h : Nat} (hL : L[i]? = some (.sl (.slice (some ⟨b, 0, none⟩) n c) e size n cl)) (hs : size = r.n) (hn : n = xs.length) (rp : RepL r I w cl xs) (hh : h ≤ n) :
    St w0 M I (L.set i (.sl (.slice (some ⟨b, 0, none⟩) h c) e size h (cl.take (h * size)))) w ∧ RepL r I w (cl.take (h * size)) (xs.take h) ∧ h = (xs.take h).length := by
  subst hs hn
  refine ⟨s.told hL rfl fun hp => ?_, rp.takeN h hh, by rw [List.length_take]; omega⟩
  have hrow : w.ownsRow 0 e r.n (.slice (some ⟨b, 0, none⟩) xs.length c) xs.length cl := hp
  show w.ownsRow 0 e r.n (.slice (some ⟨b, 0, none⟩) h c) h (cl.take (h * r.n))
  obtain ⟨hlen, ⟨h0, _⟩ | ⟨g, cap, cur, hv, h1, h2, h3, h4, h5, h6⟩⟩ := hrow
  · simp at h0
  · simp only [Value.slice.injEq, Option.some.injEq, Addr.mk.injEq, and_true, true_and] at hv
    obtain ⟨rfl, rfl⟩ := hv
    have hle : h * r.n ≤ xs.length * r.n := Nat.mul_le_mul_right _ hh
    refine ⟨by rw [List.length_take, hlen]; omega, .inr ⟨b, c, cur, rfl, h1, h2, Nat.le_trans hh h3, h4, h5, ?_⟩⟩
    rw [← h6, List.take_take, Nat.min_eq_left hle]
end Go.SX
namespace Go.SX
open Go Go.RowKit
variable {rd : Option Nat} {P : Program} {T : Tb} {E : List Value} {ds : List Deferred} {w w0 : World} {M I : Nat → Prop} {L : List It}
/-- A slice's capacity: the type, the value. -/
def capV (E : List Value) : Op → Option (Nat × Value)
  | .call ⟨.builtin .cap, ⟨[x]⟩, ⟨[t]⟩⟩ => some (t, ev E x)
  | _ => none
theorem OK.cap (hT : Tb.ok P T) {o : Oper} {K : Act → World → Prop} {t e n c : Nat} {A : Option Addr} (h : capV E o.op = some (t, .slice A n c)) (hk : (T t).known = true) (ht : (T t).td = .slice e) (hK : K (ac (putE E o.dst (.int .i64 c)) ds) w) : opK rd P o K (ac E ds) w := by
  obtain ⟨dst, op, type, pos, after, guard⟩ := o
  simp only at h ⊢ hK
  unfold capV at h
  split at h
  · rename_i x t'
    simp only [Option.some.injEq, Prod.mk.injEq] at h
    obtain ⟨rfl, hx⟩ := h
    have h2 := (hT _ hk).td; rw [ht] at h2
    simp only [TD.ok] at h2
    refine opK_eff (by simp) ?_ hK
    simp [execOp, resolve, invoke, hx, builtin, Builtin.cap_, run_underlying h2, goInt]
  · cases h
/-- The same for a slice that may be nil. -/
theorem St.shrinkA {τ : Type} {r : Rp τ} {xs : List τ} {cl : List Value} (s : St w0 M I L w) {i c e size n h : Nat} {A : Option Addr} (hL : L[i]? = some (.sl (.slice A n c) e size n cl)) (hs : size = r.n) (hn : n = xs.length) (rp : RepL r I w cl xs) (hh : h ≤ n) :
    St w0 M I (L.set i (.sl (.slice A h c) e size h (cl.take (h * size)))) w ∧ RepL r I w (cl.take (h * size)) (xs.take h) ∧ h = (xs.take h).length := by
  subst hs hn
  have hrow : w.ownsRow 0 e r.n (.slice A xs.length c) xs.length cl := s.at hL
  obtain ⟨hlen, ⟨h0, h00⟩ | ⟨g, cap, cur, hv, h1, h2, h3, h4, h5, h6⟩⟩ := hrow
  · have hx : xs = [] := List.eq_nil_of_length_eq_zero h00
    subst hx
    obtain rfl : h = 0 := by simpa using hh
    refine ⟨s.told hL rfl fun hp => ?_, rp.takeN 0 (by simp), by simp⟩
    have hp' : w.ownsRow 0 e r.n (.slice A 0 c) 0 cl := hp
    have hcl : cl = [] := List.eq_nil_of_length_eq_zero (by simpa using hp'.1)
    subst hcl
    simpa using hp
  · simp only [Value.slice.injEq, true_and] at hv
    obtain ⟨rfl, rfl⟩ := hv
    exact St.shrink s hL rfl rfl rp hh
end Go.SX
