/- SX, part h: store, append, copy, strings of bytes; a function's entry and its end. -/
import Derived.Test.YtclnddebhjjpfaaDoorSXg
import Derived.Laws.BytesArg
namespace Go.SX
open Go Go.RowKit
variable {rd : Option Nat} {P : Program} {T : Tb} {E : List Value} {ds : List Deferred} {w w0 : World} {M I : Nat → Prop} {L : List It}

abbrev flatv (vs : List Value) : Prop := ∀ v ∈ vs, v.oneCell' = true
theorem RW.store (hT : Tb.ok P T) {ops : List Oper} {K : Kont} {o : Oper} {rest : List Oper} {i b off n : Nat} {vs cs : List Value} {e : Nat} (s : St w0 M I L w) (hw : want ops E o = true) (h : storeV T E o.op = some (b, off, n, vs))
    (hL : L[i]? = some (.blk b (.cells cs.toArray e (0, 0)))) (hn : vs.length = n) (h1 : flatv vs) (hl : off + vs.length ≤ cs.length)
    (hk : ∀ w1, St w0 M I (L.set i (.blk b (.cells (setL cs off vs).toArray e (0, 0)))) w1 → Kp I w I w1 → w.grownBy w1 (some b) → RW rd P ops.toArray K rest (ac (putE E o.dst undef) ds) w1) : RW rd P ops.toArray K (o :: rest) (ac E ds) w := by
  obtain ⟨r1, r2⟩ := store_ok (P := P) (w := w) hT h hn h1 (s.at hL) hl
  exact RW.effS hw r2 r1 (hk _ (s.stored hL) (Kp.stored s hL) (grownBy_setRow (g := b)))
theorem RD.store (hT : Tb.ok P T) {ops : List Oper} {K : Kont} {S : World → Prop} {m k : Nat} {o : Oper} {listed : List Bool} {i b off n : Nat} {vs cs : List Value} {e : Nat} (s : St w0 M I L w) (hi : ops[k]? = some o) (ho : only ops listed k = true) (hw : want ops E o = true) (h : storeV T E o.op = some (b, off, n, vs))
    (hL : L[i]? = some (.blk b (.cells cs.toArray e (0, 0)))) (hn : vs.length = n) (h1 : flatv vs) (hl : off + vs.length ≤ cs.length)
    (hk : ∀ w1, St w0 M I (L.set i (.blk b (.cells (setL cs off vs).toArray e (0, 0)))) w1 → Kp I w I w1 → w.grownBy w1 (some b) → (k < m → S w1) ∧ RD rd P ops K S m (listed.set k true) (putE E o.dst undef) ds w1) : RD rd P ops K S m listed E ds w := by
  obtain ⟨r1, r2⟩ := store_ok (P := P) (w := w) hT h hn h1 (s.at hL) hl
  have := hk _ (s.stored hL) (Kp.stored s hL) (grownBy_setRow (g := b))
  exact RD.effS hi ho hw r2 r1 this.1 this.2

/-- Cells of a slice's first n elements, n * size of them: nil has none. -/
def Src (w : World) (A : Option Addr) (cells : List Value) : Prop := (A = none ∧ cells = []) ∨ ∃ a, A = some a ∧ ∀ j v, cells[j]? = some v → w.cell? (a.add j) = some v
theorem at_add {b o : Nat} {cells : List Value} (h : At w b o cells) : ∀ j v, cells[j]? = some v → w.cell? ((⟨b, o, none⟩ : Addr).add j) = some v := fun j v hj => by
  rw [← plus_eq]; exact h j v hj
def appV (E : List Value) : Op → Option (Value × Option Addr × Nat × Nat × Nat)
  | .call ⟨.builtin .append, ⟨[s, x]⟩, ⟨[t, t']⟩⟩ => match ev E x with
    | .slice A m _ => if t = t' then some (ev E s, A, m, t, t) else none
    | _ => none
  | _ => none
theorem append_ok (hT : Tb.ok P T) {o : Oper} {v : Value} {A : Option Addr} {i m t e size n : Nat} {xs news : List Value} (s : St w0 M I L w) (h : appV E o.op = some (v, A, m, t, t))
    (htk : (T t).known = true) (ht : (T t).td = .slice e) (hek : (T e).known = true) (hes : (T e).size = size) (hez : (T e).zero.cells.size = size) (hpos : 0 < size)
    (hL : L[i]? = some (.sl v e size n xs)) (hs : Src w A news) (hn : news.length = m * size) (h1 : flatv news) (hb : (n + m) * (T e).bytes + (n + m) ≤ 140737488355328) :
    ∃ v' w', (execOp (ev E) o).run P w = .ok (.value v') w' ∧ (∀ c, o.op ≠ .defer c) ∧ St w0 M I (L.set i (.sl v' e size (n + m) (xs ++ news))) w' ∧ Kp I w I w' ∧ w.grownBy w' v.ownBlock := by
  obtain ⟨dst, op, type, pos, after, guard⟩ := o
  simp only at h ⊢
  unfold appV at h
  split at h
  · rename_i sx x t1 t2
    split at h
    · rename_i A' m' c' hx
      split at h
      · rename_i he
        subst he
        cases h
        have h2 := (hT _ htk).td; rw [ht] at h2
        simp only [TD.ok] at h2
        have hinfo := (hT _ hek).info
        obtain ⟨inf, hi1, hi2⟩ := Option.map_eq_some_iff.1 hinfo
        simp only [Prod.mk.injEq] at hi2
        have hown : w.ownsRow 0 e size (ev E sx) n xs := s.at hL
        have run : ∀ (v' : Value) (w' : World), (Builtin.append_ #[t, t] type #[ev E sx, ev E x]).run P w = .ok v' w' → (execOp (ev E) (⟨dst, .call ⟨.builtin .append, ⟨[sx, x]⟩, ⟨[t, t]⟩⟩, type, pos, after, guard⟩ : Oper)).run P w = .ok (.value v') w' := by
          intro v' w' hr
          simp [execOp, resolve, invoke, builtin, hr, Result.andThen]
        rcases hs with ⟨rfl, rfl⟩ | ⟨sa, rfl, hc⟩
        · have hm : m = 0 := by
            simp only [List.length_nil] at hn
            rcases Nat.eq_zero_or_pos m with h0 | h0
            · exact h0
            · have := Nat.mul_pos h0 hpos; omega
          subst hm
          refine ⟨ev E sx, w, run _ _ ?hrun, by simp, ?hst, Kp.refl, ⟨rfl, rfl, rfl, Nat.le_refl _, fun _ _ _ => rfl⟩⟩
          case hrun =>
            rw [hx]
            rcases hown.2 with ⟨hv, rfl⟩ | ⟨g, cap, cur, hv, _, _, hnc, _⟩
            · rw [hv]; simp [Builtin.append_, run_underlying h2, sizeOf, typeInfo, hi1, Builtin.lenOf, Builtin.firstCells]
            · rw [hv]; simp [Builtin.append_, run_underlying h2, sizeOf, typeInfo, hi1, Builtin.lenOf, Builtin.firstCells, hnc, storeCells]
          case hst =>
            have : L.set i (.sl (ev E sx) e size (n + 0) (xs ++ [])) = L := by
              rw [List.append_nil, Nat.add_zero]
              apply List.ext_getElem?
              intro j
              by_cases hj : i = j
              · subst hj; rw [List.getElem?_set_self (List.getElem?_eq_some_iff.1 hL).1, hL]
              · rw [List.getElem?_set_ne hj]
            rw [this]; exact s
        · obtain ⟨v', w', hr, r1, r2, _, r3⟩ := run_append_own_at (P := P) w 0 t type e inf (T e).zero size (T e).bytes h2 hi1 hi2.2.2 (hi2.1.trans hes) hi2.2.1 hez hpos (ev E sx) n xs hown sa m c' news hn hc h1
            (by simp only [maxLen]; omega) (by omega) (Nat.zero_le _)
          rw [← hx] at hr
          refine ⟨v', w', run _ _ hr, by simp, s.turn hL r2 r1 (fun c hc => ?_), Kp.turn s hL r2, r2⟩
          rcases r3 with r3 | r3
          · exact .inl (show (ev E sx).ownBlock = some c from r3.symm.trans hc)
          · refine .inr ?_
            have : v'.ownBlock = some c := hc
            rw [r3] at this
            simp only [Option.some.injEq] at this
            omega
      · cases h
    · cases h
  · cases h
theorem RW.append (hT : Tb.ok P T) {ops : List Oper} {K : Kont} {o : Oper} {rest : List Oper} {v : Value} {A : Option Addr} {i m t e size n : Nat} {xs news : List Value} (s : St w0 M I L w) (hw : want ops E o = true) (h : appV E o.op = some (v, A, m, t, t))
    (htk : (T t).known = true) (ht : (T t).td = .slice e) (hek : (T e).known = true) (hes : (T e).size = size) (hez : (T e).zero.cells.size = size) (hpos : 0 < size)
    (hL : L[i]? = some (.sl v e size n xs)) (hs : Src w A news) (hn : news.length = m * size) (h1 : flatv news) (hb : (n + m) * (T e).bytes + (n + m) ≤ 140737488355328)
    (hk : ∀ v' w1, St w0 M I (L.set i (.sl v' e size (n + m) (xs ++ news))) w1 → Kp I w I w1 → w.grownBy w1 v.ownBlock → RW rd P ops.toArray K rest (ac (putE E o.dst v') ds) w1) : RW rd P ops.toArray K (o :: rest) (ac E ds) w := by
  obtain ⟨v', w', r1, r2, r3, r4, r5⟩ := append_ok hT s h htk ht hek hes hez hpos hL hs hn h1 hb
  exact RW.eff hw r2 r1 (hk _ _ r3 r4 r5)
theorem RD.append (hT : Tb.ok P T) {ops : List Oper} {K : Kont} {S : World → Prop} {mm k : Nat} {o : Oper} {listed : List Bool} {v : Value} {A : Option Addr} {i m t e size n : Nat} {xs news : List Value} (s : St w0 M I L w) (hi : ops[k]? = some o) (ho : only ops listed k = true) (hw : want ops E o = true) (h : appV E o.op = some (v, A, m, t, t))
    (htk : (T t).known = true) (ht : (T t).td = .slice e) (hek : (T e).known = true) (hes : (T e).size = size) (hez : (T e).zero.cells.size = size) (hpos : 0 < size)
    (hL : L[i]? = some (.sl v e size n xs)) (hs : Src w A news) (hn : news.length = m * size) (h1 : flatv news) (hb : (n + m) * (T e).bytes + (n + m) ≤ 140737488355328)
    (hk : ∀ v' w1, St w0 M I (L.set i (.sl v' e size (n + m) (xs ++ news))) w1 → Kp I w I w1 → w.grownBy w1 v.ownBlock → (k < mm → S w1) ∧ RD rd P ops K S mm (listed.set k true) (putE E o.dst v') ds w1) : RD rd P ops K S mm listed E ds w := by
  obtain ⟨v', w', r1, r2, r3, r4, r5⟩ := append_ok hT s h htk ht hek hes hez hpos hL hs hn h1 hb
  have := hk _ _ r3 r4 r5
  exact RD.eff hi ho hw r2 r1 this.1 this.2

/-! ### copy: one cell an element, into a block of one's own -/
def copyV (E : List Value) : Op → Option (Nat × Nat × Nat × Option Addr × Nat × Nat)
  | .call ⟨.builtin .copy, ⟨[d, x]⟩, ⟨[t, _]⟩⟩ => match ev E d, ev E x with
    | .slice (some ⟨b, off, none⟩) dl _, .slice A sl _ => some (b, off, dl, A, sl, t)
    | _, _ => none
  | _ => none
theorem copy_ok (hT : Tb.ok P T) {o : Oper} {b off dl sl t e et : Nat} {A : Option Addr} {cs news : List Value} (h : copyV E o.op = some (b, off, dl, A, sl, t))
    (htk : (T t).known = true) (ht : (T t).td = .slice et) (hek : (T et).known = true) (hes : (T et).size = 1)
    (hb : w.heap[b]? = some (.cells cs.toArray e (0, 0))) (hs : Src w A news) (hn : news.length = min sl dl) (h1 : flatv news) (hl : off + news.length ≤ cs.length) :
    (execOp (ev E) o).run P w = .ok (.value (.int .i64 news.length)) (w.setRow b (setL cs off news).toArray) ∧ (∀ c, o.op ≠ .defer c) := by
  obtain ⟨dst, op, type, pos, after, guard⟩ := o
  simp only at h ⊢
  unfold copyV at h
  split at h
  · rename_i d x t1 t2
    split at h
    · rename_i b' off' dl' dc A' sl' sc hd hx
      cases h
      refine ⟨?_, by simp⟩
      have h2 := (hT _ htk).td; rw [ht] at h2
      simp only [TD.ok] at h2
      have hinfo := (hT _ hek).info
      obtain ⟨inf, hi1, hi2⟩ := Option.map_eq_some_iff.1 hinfo
      simp only [Prod.mk.injEq] at hi2
      have hsz : (P.info? et).map (·.size) = some 1 := by rw [hi1]; simp [hi2.1, hes]
      have run : ∀ (v' : Value) (w' : World), (Builtin.copy_ #[t, t2] type #[ev E d, ev E x]).run P w = .ok v' w' → (execOp (ev E) (⟨dst, .call ⟨.builtin .copy, ⟨[d, x]⟩, ⟨[t, t2]⟩⟩, type, pos, after, guard⟩ : Oper)).run P w = .ok (.value v') w' := by
        intro v' w' hr
        simp [execOp, resolve, invoke, builtin, hr, Result.andThen]
      refine run _ _ ?_
      rcases hs with ⟨rfl, rfl⟩ | ⟨sa, rfl, hc⟩
      · rw [hd, hx]
        have hm : Nat.min sl dl = 0 := by simpa using hn.symm
        rw [show setL cs off [] = cs from rfl, setRow_self w b cs.toArray e (0, 0) hb]
        simp [Builtin.copy_, run_underlying h2, Builtin.lenOf, sizeOf, typeInfo, hi1, Builtin.firstCells, storeCells, goInt, hm]
      · rw [hd, hx]
        have := run_copy_row (P := P) w t t2 type et b off dl dc sa sl sc cs.toArray e news h2 hsz hb hn hc (by simpa using hl) h1
        rw [this]
        rw [show cs.toArray.toList = cs from rfl, setL_eq _ _ _ hl]
        rfl
    · cases h
  · cases h
theorem RW.copy (hT : Tb.ok P T) {ops : List Oper} {K : Kont} {o : Oper} {rest : List Oper} {i b off dl sl t e et : Nat} {A : Option Addr} {cs news : List Value} (s : St w0 M I L w) (hw : want ops E o = true) (h : copyV E o.op = some (b, off, dl, A, sl, t))
    (htk : (T t).known = true) (ht : (T t).td = .slice et) (hek : (T et).known = true) (hes : (T et).size = 1)
    (hL : L[i]? = some (.blk b (.cells cs.toArray e (0, 0)))) (hs : Src w A news) (hn : news.length = min sl dl) (h1 : flatv news) (hl : off + news.length ≤ cs.length)
    (hk : ∀ w1, St w0 M I (L.set i (.blk b (.cells (setL cs off news).toArray e (0, 0)))) w1 → Kp I w I w1 → w.grownBy w1 (some b) → RW rd P ops.toArray K rest (ac (putE E o.dst (.int .i64 news.length)) ds) w1) : RW rd P ops.toArray K (o :: rest) (ac E ds) w := by
  obtain ⟨r1, r2⟩ := copy_ok (P := P) (w := w) hT h htk ht hek hes (s.at hL) hs hn h1 hl
  exact RW.eff hw r2 r1 (hk _ (s.stored hL) (Kp.stored s hL) (grownBy_setRow (g := b)))

/-! ### A function's entry and its end -/
def Fin (P : Program) (fn : Func) (R : Value → World → Prop) (E : List Value) (ds : List Deferred) (w : World) : Prop :=
  LeavesInM Fence.wide 0 P fn E.toArray (fun e w' => ∃ v, e = .returned v ∧ R v w') ds .returning w
def finQ (P : Program) (fn : Func) (R : Value → World → Prop) : Post
  | .ret, E, ds, w => Fin P fn R E ds w
  | _, _, _, _ => False
theorem Ret.of {f : Nat} {fn : Func} {c : Code} {args : List Value} {R : Value → World → Prop} (hf : P.funcs[f]? = some fn) (hb : fn.body = some c)
    (h : WPK none P c (fun E ds w => Fin P fn R E ds w) (finQ P fn R) (args ++ List.replicate (fn.ntmps - args.length) undef) [] w) : Ret P f args w R := by
  unfold Ret
  refine callsIn_wide (n := 0).1 ?_
  refine callsIn_of_wp_marks hf hb trivial ?_
  have h2 : c.wpIn Fence.wide 0 P (joinQ (fun E ds w => Fin P fn R E ds w) (finQ P fn R)) ⟨args.toArray ++ Array.replicate (fn.ntmps - args.toArray.size) undef, []⟩ w := by
    have h1 : c.wpIn (FW none) 0 P (joinQ (fun E ds w => Fin P fn R E ds w) (finQ P fn R)) ⟨(args ++ List.replicate (fn.ntmps - args.length) undef).toArray, []⟩ w := h
    rw [FW_none] at h1
    have he : (args ++ List.replicate (fn.ntmps - args.length) undef).toArray = args.toArray ++ Array.replicate (fn.ntmps - args.toArray.size) undef := Array.ext' (by simp)
    rwa [he] at h1
  refine wpIn_mono h2 fun e a w' hq => ?_
  cases e with
  | normal => exact hq
  | ret => exact hq
  | _ => exact hq.elim
/-- What the results hold: values, and what is asked for them. -/
def resL (T : Tb) (E : List Value) : List ResultVar → List Value → Option (List Value × List C)
  | [], _ => some ([], [])
  | .tmp t :: r, ld => match resL T E r ld with
    | some (vs, cs) => some (E.getD t undef :: vs, cs)
    | none => none
  | .cell a t :: r, ld => match stepOp T E (.load t (.tmp a)) (ld.headD undef) with
    | some (v, c) => match resL T E r ld.tail with
      | some (vs, cs) => some (v :: vs, consC c cs)
      | none => none
    | none => none
def resV (T : Tb) (E : List Value) (rs : List ResultVar) (ld : List Value) : Option (Value × List C) :=
  match resL T E rs ld with
  | some ([v], cs) => some (v, cs)
  | some (vs, cs) => some (.tuple vs.toArray, cs)
  | none => none
def resF (E : List Value) : ResultVar → Sem Value
  | .tmp t => pure (E.toArray.getD t undef)
  | .cell a t => do loadVar t (← asAddr (E.toArray.getD a undef))
theorem load_ok (hT : Tb.ok P T) {t : Nat} {a : Operand} {ld v : Value} {c : C} (h : stepOp T E (.load t a) ld = some (v, c)) (hc : c.holds w) : ∃ ad, ev E a = .pointer (some ad) ∧ (loadVar t ad).run P w = .ok v w := by
  simp only [stepOp] at h
  split at h
  · rename_i ad cs hk ht hv
    cases h
    simp only [C.holds] at hc
    have := TD.agg_ok (w := w) (hT _ hk).td ht
    have hl := run_loadCells_list (P := P) (w := w) ad cs.toList (fun j v hj => by rw [← plus_eq]; exact hc.2 j v hj)
    rw [hc.1] at hl
    simp only [Array.toArray_toList] at hl
    exact ⟨ad, hv, by simp [loadVar, this, size_ok (hT _ hk), hl]⟩
  · rename_i ad hk ht hv
    cases h
    simp only [C.holds] at hc
    have := TD.agg_ok (w := w) (hT _ hk).td ht
    exact ⟨ad, hv, by simp [loadVar, this, hc]⟩
  · cases h
theorem resL_ok (hT : Tb.ok P T) : ∀ (rs : List ResultVar) (ld vs : List Value) (cs : List C), resL T E rs ld = some (vs, cs) → AllC w cs → (rs.mapM (resF E)).run P w = .ok vs w
  | [], ld, vs, cs, h, _ => by
    simp only [resL, Option.some.injEq, Prod.mk.injEq] at h
    obtain ⟨rfl, rfl⟩ := h
    simp
  | .tmp t :: r, ld, vs, cs, h, hc => by
    simp only [resL] at h
    split at h
    · rename_i vs' cs' hr
      cases h
      have := resL_ok hT r ld vs' cs hr hc
      simp [List.mapM_cons, resF, this]
    · cases h
  | .cell a t :: r, ld, vs, cs, h, hc => by
    simp only [resL] at h
    split at h
    · rename_i v c hs
      split at h
      · rename_i vs' cs' hr
        cases h
        obtain ⟨h1, h2⟩ := hc.cons
        have h3 := resL_ok hT r ld.tail vs' cs' hr h2
        obtain ⟨ad, h4, h5⟩ := load_ok hT hs h1
        have he : E.toArray.getD a undef = .pointer (some ad) := by rw [← h4]; simp [ev]
        have h6 : (asAddr (E.toArray.getD a undef)).run P w = .ok ad w := by rw [he]; rfl
        have h7 : (resF E (.cell a t)).run P w = .ok v w := by
          unfold resF
          rw [Sem.run_bind, h6]
          simpa [Result.andThen] using h5
        rw [List.mapM_cons, Sem.run_bind, h7]
        simp [Result.andThen, h3]
      · cases h
    · cases h
/-- The function's results are these. -/
theorem Fin.of (hT : Tb.ok P T) {fn : Func} {R : Value → World → Prop} {rs : List ResultVar} (ld : List Value) (v : Value) (cs : List C) (hr : fn.results = rs.toArray) (h : resV T E rs ld = some (v, cs)) (hc : AllC w cs) (hR : R v w) : Fin P fn R E [] w := by
  unfold Fin LeavesInM LeavesIn
  refine ⟨v, ?_, v, rfl, hR⟩
  unfold resV at h
  have key : ∀ vs, (rs.mapM (resF E)).run P w = .ok vs w → (results fn E.toArray).run P w = .ok (if h : vs.toArray.size = 1 then vs.toArray[0] else .tuple vs.toArray) w := by
    intro vs hvs
    have h2 : (rs.toArray.mapM (resF E)).run P w = .ok vs.toArray w := by
      rw [List.mapM_toArray]
      simp [hvs]
    unfold results
    rw [hr, Sem.run_bind]
    have h3 : ∀ f : ResultVar → Sem Value, (∀ r, f r = resF E r) → rs.toArray.mapM f = rs.toArray.mapM (resF E) := fun f hf => by rw [show f = resF E from funext hf]
    rw [h3 _ (fun r => by cases r <;> rfl), h2]
    simp [Result.andThen]
  split at h
  · rename_i v' cs' hl
    cases h
    have := key _ (resL_ok hT rs ld _ _ hl hc)
    simpa using this
  · rename_i vs cs' hne hl
    cases h
    have := key _ (resL_ok hT rs ld _ _ hl hc)
    have h1 : vs.toArray.size ≠ 1 := by
      intro h1
      have : vs.length = 1 := by simpa using h1
      obtain ⟨x, rfl⟩ := List.length_eq_one_iff.1 this
      exact hne x rfl
    rw [dif_neg h1] at this
    exact this
  · cases h
/-- The same, behind one range over a function. -/
theorem Fin.of1 (hT : Tb.ok P T) {fn : Func} {R : Value → World → Prop} {rs : List ResultVar} {D : Nat} (ld : List Value) (v : Value) (cs : List C) (hD : w.heap[D]? = some (.deferred (some []))) (hr : fn.results = rs.toArray) (h : resV T E rs ld = some (v, cs)) (hc : AllC (w.putObj D (.deferred none)) cs) (hR : R v (w.putObj D (.deferred none))) :
    Fin P fn R E [{ target := .collected D, args := #[] }] w := by
  unfold Fin
  unfold LeavesInM
  refine ⟨by simp, .inl ⟨D, _, rfl, run_takeDeferred hD, ?_⟩⟩
  exact Fin.of (w := w.putObj D (.deferred none)) hT ld v cs hr h hc hR
end Go.SX
