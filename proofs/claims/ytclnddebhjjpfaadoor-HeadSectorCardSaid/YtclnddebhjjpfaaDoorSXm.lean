/- SX, part m: the operations, for either kind of region. -/
import Derived.Test.YtclnddebhjjpfaaDoorSXl
namespace Go.SX
open Go Go.RowKit
variable {rd : Option Nat} {P : Program} {T : Tb} {E : List Value} {ds : List Deferred} {w w0 w1 : World} {M I I1 : Nat → Prop} {L L1 : List It}

theorem opK_eff {o : Oper} {v : Value} {w' : World} {K : Act → World → Prop} (hd : ∀ c, o.op ≠ .defer c) (h : (execOp (ev E) o).run P w = .ok (.value v) w') (hk : K (ac (putE E o.dst v) ds) w') : opK rd P o K (ac E ds) w := by
  unfold opK
  rw [Oper.semAt_eq _ _ _ hd, ac_eval, h, Oper.uponIn_value, ac_put]
  exact hk
theorem opK_effS {o : Oper} {w' : World} {K : Act → World → Prop} (hd : ∀ c, o.op ≠ .defer c) (h : (execOp (ev E) o).run P w = .ok .skip w') (hk : K (ac (putE E o.dst undef) ds) w') : opK rd P o K (ac E ds) w := by
  unfold opK
  rw [Oper.semAt_eq _ _ _ hd, ac_eval, h, Oper.uponIn_skip, ac_put]
  exact hk
theorem RW.op {ops : List Oper} {K : Kont} {o : Oper} {rest : List Oper} (hw : want ops E o = true) (h : opK rd P o (RW rd P ops.toArray K rest) (ac E ds) w) : RW rd P ops.toArray K (o :: rest) (ac E ds) w := by
  simp only [RW]
  rw [want_ok, hw]
  simpa using h
theorem RD.op {ops : List Oper} {K : Kont} {S : World → Prop} {m i : Nat} {o : Oper} {listed : List Bool} (hi : ops[i]? = some o) (ho : only ops listed i = true) (hw : want ops E o = true)
    (h : opK rd P o (fun a' w' => (i < m → S w') ∧ Any rd P ops.toArray (fun a w => K a.tmps.toList a.defers w) S m (left (listed.set i true)) (listed.set i true).toArray a' w') (ac E ds) w) : RD rd P ops K S m listed E ds w := RD.one hi ho hw h
theorem RD.fold {ops : List Oper} {K : Kont} {S : World → Prop} {m : Nat} {listed : List Bool} (h : RD rd P ops K S m listed E ds w) : Any rd P ops.toArray (fun a w => K a.tmps.toList a.defers w) S m (left listed) listed.toArray (ac E ds) w := h
theorem RD.skip {ops : List Oper} {K : Kont} {S : World → Prop} {m i : Nat} {o : Oper} {listed : List Bool} (hi : ops[i]? = some o) (ho : only ops listed i = true) (hw : want ops E o = false)
    (h : (i < m → S w) ∧ RD rd P ops K S m (listed.set i true) (putE E o.dst undef) ds w) : RD rd P ops K S m listed E ds w := by
  unfold only at ho
  simp only [Bool.and_eq_true] at ho
  obtain ⟨hr, hall⟩ := ho
  have hun : listed.getD i true = false := by
    have hr' := hr
    unfold isReady at hr'
    simp only [Bool.and_eq_true, Bool.not_eq_true'] at hr'
    exact hr'.1
  unfold RD at *
  rw [left_set hun]
  refine ⟨fun h0 => ?_, fun j hj => ?_⟩
  · have := ready_iff.2 hr
    rw [h0] at this
    cases this
  · have hjr := ready_iff.1 hj
    have hlt : j < ops.length := by
      have : j ∈ Region.ready MD ops.toArray listed.toArray := hj
      unfold Region.ready at this
      rw [List.mem_filter, List.mem_range] at this
      simpa using this.1
    have hji : j = i := by
      have := List.all_eq_true.1 hall j (List.mem_range.2 hlt)
      simpa [hjr] using this
    subst hji
    unfold opI
    simp only [List.getElem?_toArray, hi]
    rw [want_ok, hw]
    simp only [Bool.false_eq_true, if_false]
    rw [ac_put]
    simpa using h
theorem OK.call {o : Oper} {f : Nat} {args : List Value} {R : Value → World → Prop} {K : Act → World → Prop} (he : Proofs.Enters P f) (h : calleeV E o.op = some (f, args)) (hc : Ret P f args w R)
    (hk : ∀ v w', R v w' → K (ac (putE E o.dst v) ds) w') : opK rd P o K (ac E ds) w := opK_call he h hc hk
theorem OK.pure (hT : Tb.ok P T) {o : Oper} {ld v : Value} {c : C} {K : Act → World → Prop} (h : stepOp T E o.op ld = some (v, c)) (hc : c.holds w) (hk : K (ac (putE E o.dst v) ds) w) : opK rd P o K (ac E ds) w := opK_step hT h hc hk
theorem row_bd {i : Int} {k n : Nat} (h : 0 ≤ i ∧ i < (k : Int)) {m : Nat} (hm : m = n) : 0 + i.toNat * n + m ≤ k * n := by
  subst hm
  have : i.toNat + 1 ≤ k := by omega
  have := Nat.mul_le_mul_right m this
  rw [Nat.succ_mul] at this
  omega
theorem Elems.getI {τ : Type} {r : Rp τ} {xs : List τ} {b o : Nat} {s : Option Nat} {i : Nat} {x : τ} (e : Elems r I w (some ⟨b, o, s⟩) xs) (h : xs[i]? = some x) : ∃ cs, r.rep I w cs x ∧ At w b (o + i * r.n) cs ∧ I b := by
  obtain ⟨b', o', hA, hb, hc⟩ := e (by intro hn; subst hn; simp at h)
  cases hA
  obtain ⟨cs, h1, h2⟩ := hc i x h
  exact ⟨cs, h1, h2, hb⟩
section
variable {τ : Type} {r : Rp τ} {xs ys zs : List τ} {cl news : List Value} {A A2 : Option Addr}
theorem OK.new (hT : Tb.ok P T) {K : Act → World → Prop} {o : Oper} {f : Nat → Value} {cs : List Value} {e : Nat} {c : C} (s : St w0 M I L w) (h : newV T E o.op = some (f, cs, e, c)) (hc : c.holds w)
    (hk : ∀ w1 b, St w0 M I (.blk b (.cells cs.toArray e) :: L) w1 → Kp I w I w1 → Below w.heap.size w w1 → K (ac (putE E o.dst (f b)) ds) w1) : opK rd P o K (ac E ds) w := by
  obtain ⟨h1, h2⟩ := newV_ok (w := w) hT h hc
  exact opK_eff h2 h1 (hk _ _ (s.alloc _) (Kp.alloc s _) (below_alloc _ _))
theorem OK.store (hT : Tb.ok P T) {K : Act → World → Prop} {o : Oper} {i b off n : Nat} {vs cs : List Value} {e : Nat} (s : St w0 M I L w) (h : storeV T E o.op = some (b, off, n, vs))
    (hL : L[i]? = some (.blk b (.cells cs.toArray e (0, 0)))) (hn : vs.length = n) (h1 : flatv vs) (hl : off + vs.length ≤ cs.length)
    (hk : ∀ w1, St w0 M I (L.set i (.blk b (.cells (setL cs off vs).toArray e (0, 0)))) w1 → Kp I w I w1 → w.grownBy w1 (some b) → K (ac (putE E o.dst undef) ds) w1) : opK rd P o K (ac E ds) w := by
  obtain ⟨r1, r2⟩ := store_ok (P := P) (w := w) hT h hn h1 (s.at hL) hl
  exact opK_effS r2 r1 (hk _ (s.stored hL) (Kp.stored s hL) (grownBy_setRow (g := b)))
theorem OK.append (hT : Tb.ok P T) {K : Act → World → Prop} {o : Oper} {v : Value} {A : Option Addr} {i m t e size n : Nat} {xs news : List Value} (s : St w0 M I L w) (h : appV E o.op = some (v, A, m, t, t))
    (htk : (T t).known = true) (ht : (T t).td = .slice e) (hek : (T e).known = true) (hes : (T e).size = size) (hez : (T e).zero.cells.size = size) (hpos : 0 < size)
    (hL : L[i]? = some (.sl v e size n xs)) (hs : Src w A news) (hn : news.length = m * size) (h1 : flatv news) (hb : (n + m) * (T e).bytes + (n + m) ≤ 140737488355328)
    (hk : ∀ v' w1, St w0 M I (L.set i (.sl v' e size (n + m) (xs ++ news))) w1 → Kp I w I w1 → w.grownBy w1 v.ownBlock → K (ac (putE E o.dst v') ds) w1) : opK rd P o K (ac E ds) w := by
  obtain ⟨v', w', r1, r2, r3, r4, r5⟩ := append_ok hT s h htk ht hek hes hez hpos hL hs hn h1 hb
  exact opK_eff r2 r1 (hk _ _ r3 r4 r5)
theorem OK.make (hT : Tb.ok P T) {K : Act → World → Prop} {o : Oper} {n : Int} {z : Value} {x : τ} {e bytes : Nat} (s : St w0 M I L w) 
    (h : newV T E o.op = some (fun b => .slice (some ⟨b, 0, none⟩) n.toNat n.toNat, List.replicate n.toNat z, e, .both (.cut 0 n n n) (.le (bytes * n.toNat + n.toNat) 140737488355328)))
    (g : repI n x bytes = some xs) (hz : ∀ I w, r.rep I w [z] x)
    (hk : ∀ w1 b cl, St w0 M I (.sl (.slice (some ⟨b, 0, none⟩) xs.length xs.length) e 1 xs.length cl :: L) w1 → Kp I w I w1 → RepL r I w1 cl xs → K (ac (putE E o.dst (.slice (some ⟨b, 0, none⟩) xs.length xs.length)) ds) w1) :
    opK rd P o K (ac E ds) w := by
  obtain ⟨⟨g1, g2⟩, g3⟩ := repS g
  have hlen : xs.length = n.toNat := by rw [g3]; simp
  have hb : bytes * n.toNat + n.toNat ≤ 140737488355328 := by
    have : ((bytes * n.toNat + n.toNat : Nat) : Int) ≤ 140737488355328 := by
      rw [Int.natCast_add, Int.natCast_mul, Int.toNat_of_nonneg g1, Int.mul_comm]; exact g2
    omega
  refine OK.new hT s h ⟨⟨Int.le_refl _, g1, Int.le_refl _, Int.le_refl _⟩, hb⟩ fun w1 b s1 k1 _ => ?_
  have s2 := s1.blkSl (i := 0) (n := xs.length) (c := xs.length) (size := 1) rfl (by simp [hlen]) (Nat.le_refl _) (by omega)
  have := hk w1 b _ s2 k1 (by
    rw [List.take_of_length_le (by simp [hlen]), g3]
    exact RepL.rep (hz _ _) _)
  rw [hlen] at this
  exact this
theorem OK.app (hT : Tb.ok P T) {K : Act → World → Prop} {o : Oper} {i t e size bytes c n : Nat} (s : St w0 M I L w) {m : Nat} (h : appV E o.op = some (.slice A n c, A2, m, t, t))
    (htk : (T t).known = true) (ht : (T t).td = .slice e) (hek : (T e).known = true) (hes : (T e).size = size) (hez : (T e).zero.cells.size = size) (hpos : 0 < size) (hby : (T e).bytes = bytes)
    (hL : L[i]? = some (.sl (.slice A n c) e size n cl)) (hxs : n = xs.length) (hys : m = ys.length) (rp : RepL r I w cl xs) (hs : Src w A2 news) (rq : RepL r I w news ys) (hf : r.Flat) (hn : r.n = size) (g : appI xs ys bytes = some zs)
    (hk : ∀ A' c' cl' w1, St w0 M I (L.set i (.sl (.slice A' zs.length c') e size zs.length cl')) w1 → Kp I w I w1 → RepL r I w1 cl' zs → K (ac (putE E o.dst (.slice A' zs.length c')) ds) w1) :
    opK rd P o K (ac E ds) w := by
  subst hxs
  subst hys
  obtain ⟨g1, g2⟩ := appS g
  have hlen : zs.length = xs.length + ys.length := by rw [g2, List.length_append]
  refine OK.append hT s h htk ht hek hes hez hpos hL hs (by rw [rq.length, hn]) (rq.flat hf) (by rw [hby]; exact g1) fun v' w2 s2 k2 _ => ?_
  have hlt := (List.getElem?_eq_some_iff.1 hL).1
  have hh := s2.at (i := i) (p := .sl v' e size (xs.length + ys.length) (cl ++ news)) (List.getElem?_set_self hlt)
  have hv : ∃ A' c', v' = .slice A' (xs.length + ys.length) c' := by
    obtain ⟨_, ⟨h2, h3⟩ | ⟨g, cap, cur, h3, _⟩⟩ := hh
    · exact ⟨none, 0, by rw [h3]; exact h2⟩
    · exact ⟨_, _, h3⟩
  obtain ⟨A', c', rfl⟩ := hv
  have := hk A' c' (cl ++ news) w2 (by rw [hlen]; exact s2) k2 (by rw [g2]; exact (rp.st k2).app (rq.st k2))
  rw [hlen] at this
  exact this
theorem OK.storeSl (hT : Tb.ok P T) {K : Act → World → Prop} {o : Oper} {i b off m c e size n : Nat} {vs cl' : List Value} (s : St w0 M I L w) (h : storeV T E o.op = some (b, off, m, vs))
    (hL : L[i]? = some (.sl (.slice (some ⟨b, 0, none⟩) n c) e size n cl)) (hn : vs.length = m) (h1 : flatv vs) (hl : off + vs.length ≤ cl.length) (hcl : setL cl off vs = cl')
    (hk : ∀ w1, St w0 M I (L.set i (.sl (.slice (some ⟨b, 0, none⟩) n c) e size n cl')) w1 → Kp I w I w1 → K (ac (putE E o.dst undef) ds) w1) : opK rd P o K (ac E ds) w := by
  have hh := s.at hL
  obtain ⟨q1, h2 | ⟨g, cap, cur, h3, q2, q3, q4, q5, q6, q7⟩⟩ := hh
  · simp at h2
  · cases h3
    have hcl0 : cl.length ≤ cur.toList.length := by rw [← q7]; simp; omega
    obtain ⟨r1, r2⟩ := store_ok (P := P) (w := w) (cs := cur.toList) hT h hn h1 (by simpa using q3) (by omega)
    have hlen := setL_length vs cl off
    have hpre : ∀ (vs : List Value) (off k : Nat) (cs : List Value), off + vs.length ≤ k → (setL cs off vs).take k = setL (cs.take k) off vs := by
      intro vs
      induction vs with
      | nil => intro off k cs _; rfl
      | cons v vs ih =>
        intro off k cs hk
        simp only [List.length_cons] at hk
        simp only [setL]
        rw [ih _ _ _ (by omega), List.take_set]
    refine opK_effS r2 r1 (hk _ ?_ ?_)
    · refine s.turn hL (grownBy_setRow (g := b)) ⟨by rw [← hcl, hlen, q1], .inr ⟨b, c, (setL cur.toList off vs).toArray, rfl, q2, ?_, q4, q5, ?_, ?_⟩⟩ (fun _ hc => .inl hc)
      · exact setRow_heap w b cur _ e (0, 0) q3
      · simp [setL_length, q6]
      · rw [show (setL cur.toList off vs).toArray.toList = setL cur.toList off vs from rfl, hpre _ _ _ _ (by omega), q7, hcl]
    · exact Kp.turn s hL (grownBy_setRow (g := b))
end
end Go.SX
