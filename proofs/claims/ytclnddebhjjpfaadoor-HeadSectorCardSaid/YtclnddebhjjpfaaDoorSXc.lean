/- SX, part c: what 'stepOp' says is what the operation does. -/
import Derived.Test.YtclnddebhjjpfaaDoorSXb
namespace Go.SX
open Go
variable {P : Program} {T : Tb} {E : List Value} {w : World}

theorem TD.agg_ok {t : Nat} {d : TD} {b : Bool} (h : d.ok P t) (hb : d.agg = some b) : (isAgg t).run P w = .ok b w := by
  cases d <;> simp only [TD.agg, Option.some.injEq, reduceCtorEq] at hb <;> subst hb <;> simp only [TD.ok] at h
  case strct fs =>
    obtain ⟨u, hu, h2⟩ := Option.bind_eq_some_iff.1 h
    split at h2
    · simp [isAgg, run_underlying hu]
    · cases h2
  case func =>
    obtain ⟨u, hu, h2⟩ := Option.map_eq_some_iff.1 h
    cases u <;> simp_all [isAgg, run_underlying hu]
  case flat =>
    obtain ⟨u, hu, h2⟩ := Option.map_eq_some_iff.1 h
    cases u <;> simp_all [isAgg, run_underlying hu]
  all_goals simp [isAgg, run_underlying h]
theorem size_ok {t : Nat} {r : TR} (h : r.ok P t) : (sizeOf t).run P w = .ok r.size w := by
  have h1 := h.info
  obtain ⟨i, hi, h2⟩ := Option.map_eq_some_iff.1 h1
  simp only [Prod.mk.injEq] at h2
  simp [sizeOf, typeInfo, hi, h2.1]
theorem zero_ok {t : Nat} {r : TR} (h : r.ok P t) : (zeroValue t).run P w = .ok r.zero w := by
  have h1 := h.info
  obtain ⟨i, hi, h2⟩ := Option.map_eq_some_iff.1 h1
  simp only [Prod.mk.injEq] at h2
  simp [zeroValue, typeInfo, hi, h2.2.2]
theorem part_ok (hT : Tb.ok P T) {t off : Nat} {cs : List Value} {v : Value} (h : partV T t cs off = some v) : (part t cs.toArray off).run P w = .ok v w := by
  unfold partV at h
  split at h
  · rename_i hk ha
    have ho := hT t hk
    cases h
    simp [part, TD.agg_ok ho.td ha, size_ok ho]
  · rename_i hk ha
    have ho := hT t hk
    simp [part, TD.agg_ok ho.td ha, h]
  · cases h

theorem strct_ok {t : Nat} {fs : List (Nat × Nat)} (h : TD.ok P t (.strct fs)) : ∃ F : Array Field, P.underlying t = some (.struct F) ∧ (F.toList.map fun f => (f.offset, f.type)) = fs := by
  obtain ⟨u, hu, h2⟩ := Option.bind_eq_some_iff.1 h
  split at h2
  · rename_i F; exact ⟨F, hu, by simpa using h2⟩
  · cases h2
theorem field_at {F : Array Field} {fs : List (Nat × Nat)} {i off ft : Nat} (hF : (F.toList.map fun f => (f.offset, f.type)) = fs) (h : fs[i]? = some (off, ft)) : ∃ f, F[i]? = some f ∧ f.offset = off ∧ f.type = ft := by
  subst hF
  rw [List.getElem?_map] at h
  obtain ⟨f, hf, h2⟩ := Option.map_eq_some_iff.1 h
  simp only [Prod.mk.injEq] at h2
  exact ⟨f, by simpa using hf, h2.1, h2.2⟩
theorem guard_int (op : BinOp) (t : TypeId) (x y : Operand) (k k' : IntKind) (a b : Int) : (eqGuard op t x y (.int k a) (.int k' b)).run P w = .ok () w := by
  unfold eqGuard; cases op <;> simp
/-- The forms of values that '==' looks into by their type. -/
def byType : Value → Bool
  | .slice .. | .nilFunc | .func .. => true
  | _ => false
theorem eql_of {t : Nat} {a b : Value} {r : Bool} {ha : byType a = true} {hb : byType b = true} (h : (Op.equal t a b).run P w = .ok r w) : (binOp .eql t a b).run P w = .ok (.bool r) w := by
  have : binOp .eql t a b = (do pure (.bool (← Op.equal t a b))) := by
    cases a <;> cases b <;> simp only [byType, Bool.false_eq_true] at ha hb <;> rfl
  rw [this]; simp [h]
theorem neq_of {t : Nat} {a b : Value} {r : Bool} {ha : byType a = true} {hb : byType b = true} (h : (Op.equal t a b).run P w = .ok r w) : (binOp .neq t a b).run P w = .ok (.bool (!r)) w := by
  have : binOp .neq t a b = (do pure (.bool (!(← Op.equal t a b)))) := by
    cases a <;> cases b <;> simp only [byType, Bool.false_eq_true] at ha hb <;> rfl
  rw [this]; simp [h]
theorem equalIn_func_nil (d : Nat) {t : Nat} (h : TD.ok P t .func) : (Op.equalIn (d + 1) t .nilFunc .nilFunc).run P w = .ok true w := by
  obtain ⟨u, hu, h2⟩ := Option.map_eq_some_iff.1 h
  cases u <;> simp only [reduceCtorEq] at h2
  simp [Op.equalIn, run_underlying hu]
theorem equalIn_func_held (d : Nat) {t : Nat} {f : Fn} {a c : Array Value} (h : TD.ok P t .func) : (Op.equalIn (d + 1) t (.func f a c) .nilFunc).run P w = .ok false w := by
  obtain ⟨u, hu, h2⟩ := Option.map_eq_some_iff.1 h
  cases u <;> simp only [reduceCtorEq] at h2
  simp [Op.equalIn, run_underlying hu]
theorem equal_func_nil {t : Nat} (h : TD.ok P t .func) : (Op.equal t .nilFunc .nilFunc).run P w = .ok true w := equalIn_func_nil 9999 h
theorem equal_func_held {t : Nat} {f : Fn} {a c : Array Value} (h : TD.ok P t .func) : (Op.equal t (.func f a c) .nilFunc).run P w = .ok false w := equalIn_func_held 9999 h
theorem binV_ok (hT : Tb.ok P T) {op : BinOp} {t : Nat} {x y : Operand} {a b v : Value} {c : C} (h : binV T op t a b = some (v, c)) (hc : c.holds w) :
    (eqGuard op t x y a b).run P w = .ok () w ∧ (binOp op t a b).run P w = .ok v w := by
  unfold binV at h
  split at h
  · rename_i k n k' m
    refine ⟨guard_int _ _ _ _ _ _ _ _, ?_⟩
    split at h
    · cases h; simp only [C.holds] at hc; simp [binOp, Op.shift, show ¬ m < 0 by omega]
    · cases h; simp only [C.holds] at hc; simp [binOp, Op.shift, show ¬ m < 0 by omega]
    · split at h
      · rename_i hk
        subst hk
        split at h <;> first | (cases h; simp only [C.holds] at hc; simp [binOp, Op.intArith, Op.intDiv, Op.intBits, Op.intCmp, hc]; done) | cases h
      · cases h
  · refine ⟨by unfold eqGuard; cases op <;> simp, ?_⟩
    split at h <;> first | (cases h; simp only [C.holds] at hc; simp [binOp, Op.stringOp]; done) | (cases h; simp only [C.holds] at hc; exact run_string_add_sum w _ _ hc) | cases h
  · refine ⟨by unfold eqGuard; cases op <;> simp, ?_⟩
    split at h
    · rename_i hk ht; cases h; have := (hT t hk).td; rw [ht] at this; exact run_eql_bool w t _ _ this
    · rename_i hk ht; cases h; have := (hT t hk).td; rw [ht] at this; exact run_neq_bool w t _ _ this
    · cases h
  · refine ⟨by unfold eqGuard; cases op <;> simp, ?_⟩
    split at h
    · rename_i e hk ht; cases h; have := (hT t hk).td; rw [ht] at this; have h2 : P.underlying t = some (.pointer e) := this; exact run_eql_pointer_nil w t _ (by rw [h2]; simp [Program.pointee, h2])
    · rename_i e hk ht; cases h; have := (hT t hk).td; rw [ht] at this; have h2 : P.underlying t = some (.pointer e) := this; exact run_neq_pointer_nil w t _ (by rw [h2]; simp [Program.pointee, h2])
    · cases h
  · refine ⟨by unfold eqGuard; cases op <;> simp, ?_⟩
    split at h
    · rename_i e hk ht; cases h; have := (hT t hk).td; rw [ht] at this; exact eql_of (ha := rfl) (hb := rfl) (run_equal_slice_nil w t e _ _ _ this)
    · rename_i e hk ht; cases h; have := (hT t hk).td; rw [ht] at this; exact neq_of (ha := rfl) (hb := rfl) (run_equal_slice_nil w t e _ _ _ this)
    · cases h
  · refine ⟨by unfold eqGuard; cases op <;> simp, ?_⟩
    split at h
    · rename_i hk ht; cases h; have := (hT t hk).td; rw [ht] at this; exact eql_of (ha := rfl) (hb := rfl) (equal_func_nil this)
    · rename_i hk ht; cases h; have := (hT t hk).td; rw [ht] at this; exact neq_of (ha := rfl) (hb := rfl) (equal_func_nil this)
    · cases h
  · refine ⟨by unfold eqGuard; cases op <;> simp, ?_⟩
    split at h
    · rename_i hk ht; cases h; have := (hT t hk).td; rw [ht] at this; exact eql_of (ha := rfl) (hb := rfl) (equal_func_held this)
    · rename_i hk ht; cases h; have := (hT t hk).td; rw [ht] at this; exact neq_of (ha := rfl) (hb := rfl) (equal_func_held this)
    · cases h
  · cases h

theorem sliceBound_ok {k : IntKind} {i : Int} {y : Nat} {code : BoundsCode} (h0 : 0 ≤ i) (h1 : i ≤ y) : (Instr.sliceBound (.int k i) y code).run P w = .ok i.toNat w := run_sliceBound w k i y code h0 h1
theorem bounds_ok {b : Bool} {len cap : Nat} {lo hi mx : Option Value} {L H M : Nat} (h :
    (lo = none ∧ hi = none ∧ mx = none ∧ L = 0 ∧ H = len ∧ M = cap) ∨
    (∃ k l, lo = some (.int k l) ∧ hi = none ∧ mx = none ∧ L = l.toNat ∧ H = len ∧ M = cap ∧ 0 ≤ l ∧ l ≤ len) ∨
    (∃ k h, lo = none ∧ hi = some (.int k h) ∧ mx = none ∧ L = 0 ∧ H = h.toNat ∧ M = cap ∧ 0 ≤ h ∧ h ≤ cap) ∨
    (∃ k l k' h, lo = some (.int k l) ∧ hi = some (.int k' h) ∧ mx = none ∧ L = l.toNat ∧ H = h.toNat ∧ M = cap ∧ 0 ≤ l ∧ l ≤ h ∧ h ≤ cap) ∨
    (∃ k h k' m, lo = none ∧ hi = some (.int k h) ∧ mx = some (.int k' m) ∧ L = 0 ∧ H = h.toNat ∧ M = m.toNat ∧ 0 ≤ h ∧ h ≤ m ∧ m ≤ cap) ∨
    (∃ k l k' h k'' m, lo = some (.int k l) ∧ hi = some (.int k' h) ∧ mx = some (.int k'' m) ∧ L = l.toNat ∧ H = h.toNat ∧ M = m.toNat ∧ 0 ≤ l ∧ l ≤ h ∧ h ≤ m ∧ m ≤ cap)) :
    (Instr.sliceBounds b len cap lo hi mx).run P w = .ok (L, H, M) w := by
  rcases h with ⟨rfl, rfl, rfl, rfl, rfl, rfl⟩ | ⟨k, l, rfl, rfl, rfl, rfl, rfl, rfl, h0, h1⟩ | ⟨k, h, rfl, rfl, rfl, rfl, rfl, rfl, h0, h1⟩ | ⟨k, l, k', h, rfl, rfl, rfl, rfl, rfl, rfl, h0, h1, h2⟩ | ⟨k, h, k', m, rfl, rfl, rfl, rfl, rfl, rfl, h0, h1, h2⟩ | ⟨k, l, k', h, k'', m, rfl, rfl, rfl, rfl, rfl, rfl, h0, h1, h2, h3⟩
  · simp [Instr.sliceBounds]
  · simp [Instr.sliceBounds, sliceBound_ok h0 h1]
  · simp [Instr.sliceBounds, sliceBound_ok h0 h1]
  · have e1 : ∀ c, (Instr.sliceBound (.int k' h) M c).run P w = .ok h.toNat w := fun c => sliceBound_ok (by omega) (by omega)
    have e2 : ∀ c, (Instr.sliceBound (.int k l) h.toNat c).run P w = .ok l.toNat w := fun c => sliceBound_ok (by omega) (by omega)
    simp [Instr.sliceBounds, e1, e2]
  · have e0 : ∀ c, (Instr.sliceBound (.int k' m) cap c).run P w = .ok m.toNat w := fun c => sliceBound_ok (by omega) (by omega)
    have e1 : ∀ c, (Instr.sliceBound (.int k h) m.toNat c).run P w = .ok h.toNat w := fun c => sliceBound_ok (by omega) (by omega)
    simp [Instr.sliceBounds, e0, e1]
  · have e0 : ∀ c, (Instr.sliceBound (.int k'' m) cap c).run P w = .ok m.toNat w := fun c => sliceBound_ok (by omega) (by omega)
    have e1 : ∀ c, (Instr.sliceBound (.int k' h) m.toNat c).run P w = .ok h.toNat w := fun c => sliceBound_ok (by omega) (by omega)
    have e2 : ∀ c, (Instr.sliceBound (.int k l) h.toNat c).run P w = .ok l.toNat w := fun c => sliceBound_ok (by omega) (by omega)
    simp [Instr.sliceBounds, e0, e1, e2]
theorem plus_zero (a : Addr) : plus a 0 = a := by rw [plus_eq]; simp [Addr.add]
theorem cutA_zero (a : Option Addr) (m size : Nat) : cutA a 0 m size = a := by
  unfold cutA
  split
  · rfl
  · cases a <;> simp [plus_zero]
theorem sliceV_ok (hT : Tb.ok P T) {t : Nat} {x v : Value} {lo hi mx : Option Value} {c : C} (h : sliceV T t x lo hi mx = some (v, c)) (hc : c.holds w) :
    (Instr.sliceAt t x lo hi mx).run P w = .ok v w := by
  unfold sliceV at h
  simp only at h
  split at h
  · rename_i e a len cap hk ht
    split at h
    · rename_i he
      have h1 := (hT t hk).td; rw [ht] at h1
      have h1' : P.underlying t = some (.slice e) := h1
      have h2 := hT e he
      have key : ∀ L H M, (Instr.sliceBounds true len cap lo hi mx).run P w = .ok (L, H, M) w → (Instr.sliceAt t (.slice a len cap) lo hi mx).run P w = .ok (.slice (cutA a L M (T e).size) (H - L) (M - L)) w := by
        intro L H M hb
        simp [Instr.sliceAt, Instr.slice, run_underlying h1', size_ok h2, hb, cutA, plus_eq]
      have key0 : ∀ H M, (Instr.sliceBounds true len cap lo hi mx).run P w = .ok (0, H, M) w → (Instr.sliceAt t (.slice a len cap) lo hi mx).run P w = .ok (.slice a H M) w := by
        intro H M hb
        have := key 0 H M hb
        rwa [cutA_zero, Nat.sub_zero, Nat.sub_zero] at this
      split at h <;> first | (cases h; first | refine key0 _ _ (bounds_ok ?_) | refine key _ _ _ (bounds_ok ?_)) | cases h
      · exact .inl ⟨rfl, rfl, rfl, rfl, rfl, rfl⟩
      · simp only [C.holds] at hc; exact .inr (.inl ⟨_, _, rfl, rfl, rfl, rfl, rfl, rfl, hc.1, hc.2.1⟩)
      · simp only [C.holds] at hc; exact .inr (.inr (.inl ⟨_, _, rfl, rfl, rfl, rfl, rfl, rfl, hc.2.1, hc.2.2.1⟩))
      · simp only [C.holds] at hc; exact .inr (.inr (.inr (.inl ⟨_, _, _, _, rfl, rfl, rfl, rfl, rfl, rfl, hc.1, hc.2.1, hc.2.2.1⟩)))
      · simp only [C.holds] at hc; exact .inr (.inr (.inr (.inr (.inl ⟨_, _, _, _, rfl, rfl, rfl, rfl, rfl, rfl, hc.2.1, hc.2.2.1, hc.2.2.2⟩))))
      · simp only [C.holds] at hc; exact .inr (.inr (.inr (.inr (.inr ⟨_, _, _, _, _, _, rfl, rfl, rfl, rfl, rfl, rfl, hc.1, hc.2.1, hc.2.2.1, hc.2.2.2⟩))))
    · cases h
  · rename_i n e a hk ht
    split at h
    · rename_i he
      have h1 := (hT t hk).td; rw [ht] at h1
      have h1' : P.underlying t = some (.array n e) := h1
      have h2 := hT e he
      have key : ∀ L H M, (Instr.sliceBounds false n n lo hi mx).run P w = .ok (L, H, M) w → (Instr.sliceAt t (.pointer (some a)) lo hi mx).run P w = .ok (.slice (cutA (some a) L M (T e).size) (H - L) (M - L)) w := by
        intro L H M hb
        simp [Instr.sliceAt, Instr.sureAddr, run_underlying h1', size_ok h2, hb, cutA, plus_eq]
        split <;> rfl
      have key0 : ∀ H M, (Instr.sliceBounds false n n lo hi mx).run P w = .ok (0, H, M) w → (Instr.sliceAt t (.pointer (some a)) lo hi mx).run P w = .ok (.slice (some a) H M) w := by
        intro H M hb
        have := key 0 H M hb
        rwa [cutA_zero, Nat.sub_zero, Nat.sub_zero] at this
      split at h <;> first | (cases h; first | refine key0 _ _ (bounds_ok ?_) | refine key _ _ _ (bounds_ok ?_)) | cases h
      · exact .inl ⟨rfl, rfl, rfl, rfl, rfl, rfl⟩
      · simp only [C.holds] at hc; exact .inr (.inl ⟨_, _, rfl, rfl, rfl, rfl, rfl, rfl, hc.1, hc.2.1⟩)
      · simp only [C.holds] at hc; exact .inr (.inr (.inl ⟨_, _, rfl, rfl, rfl, rfl, rfl, rfl, hc.2.1, hc.2.2.1⟩))
      · simp only [C.holds] at hc; exact .inr (.inr (.inr (.inl ⟨_, _, _, _, rfl, rfl, rfl, rfl, rfl, rfl, hc.1, hc.2.1, hc.2.2.1⟩)))
      · simp only [C.holds] at hc; exact .inr (.inr (.inr (.inr (.inl ⟨_, _, _, _, rfl, rfl, rfl, rfl, rfl, rfl, hc.2.1, hc.2.2.1, hc.2.2.2⟩))))
      · simp only [C.holds] at hc; exact .inr (.inr (.inr (.inr (.inr ⟨_, _, _, _, _, _, rfl, rfl, rfl, rfl, rfl, rfl, hc.1, hc.2.1, hc.2.2.1, hc.2.2.2⟩))))
    · cases h
  · cases h
/-- The one theorem of this part. -/
theorem setL_length (vs : List Value) : ∀ (cs : List Value) (off : Nat), (setL cs off vs).length = cs.length := by
  induction vs with
  | nil => intro cs off; rfl
  | cons v vs ih => intro cs off; simp [setL, ih]
theorem setL_foldl (vs : List Value) : ∀ (off k : Nat) (cs : Array Value), (vs.zipIdx k).foldl (fun (c : Array Value) (p : Value × Nat) => c.setIfInBounds (off + p.2) p.1) cs = (setL cs.toList (off + k) vs).toArray := by
  induction vs with
  | nil => intro off k cs; simp [setL]
  | cons v vs ih =>
    intro off k cs
    rw [List.zipIdx_cons, List.foldl_cons, ih]
    simp [setL, Nat.add_assoc]
theorem fill_ok (place : Nat → Option (Nat × Nat)) : ∀ (parts : List (Nat × Value)) (cs : List Value) {r : List Value}, fillL place cs parts = some r → Instr.fill place cs.toArray parts = some r.toArray
  | [], cs, r, h => by simp only [fillL, Option.some.injEq] at h; subst h; rfl
  | (i, v) :: rest, cs, r, h => by
    simp only [fillL] at h
    split at h
    · cases h
    · rename_i off size hp
      split at h
      · rename_i hc
        have := fill_ok place rest _ h
        simp only [Array.length_toList] at hc
        simp only [Instr.fill, hp]
        rw [if_neg (by simp only [Bool.or_eq_true, decide_eq_true_eq, List.size_toArray]; omega)]
        have e := setL_foldl v.cells.toList off 0 cs.toArray
        rw [← this]
        congr 1
        rw [← Array.foldl_toList, Array.toList_zipIdx]
        simpa using e
      · cases h

theorem build_ok (hT : Tb.ok P T) {t : Nat} {parts : List (Nat × Value)} {v : Value} {c : C} (h : buildV T t parts = some (v, c)) : (Instr.build t parts.toArray).run P w = .ok v w := by
  unfold buildV at h
  split at h
  · rename_i fs hk ht
    split at h
    · rename_i hall
      obtain ⟨cs, hf, h2⟩ := Option.map_eq_some_iff.1 h
      cases h2
      have h1 := (hT _ hk).td; rw [ht] at h1
      simp only [TD.ok] at h1
      obtain ⟨d, hd1, hd2⟩ := Option.bind_eq_some_iff.1 h1
      split at hd2
      · rename_i F
        cases hd2
        have hm : ∀ (l : List _), (∀ f ∈ l, (T (Field.type f)).known = true) → (l.mapM (fun f => do let s ← sizeOf f.type; pure (f.offset, s) : Field → Sem (Nat × Nat))).run P w = .ok (l.map fun f => (f.offset, (T f.type).size)) w := by
          intro l
          induction l with
          | nil => intro _; simp
          | cons f l ih =>
            intro hl
            have hz := size_ok (w := w) (hT _ (hl f (List.mem_cons_self ..)))
            have ih' := ih fun f hf => hl f (List.mem_cons_of_mem _ hf)
            simp only [bind_pure_comp] at ih' ⊢
            simp [List.mapM_cons, hz, ih', Result.andThen]
        have hkn : ∀ f ∈ F.toList, (T f.type).known = true := by
          intro f hf
          simp only [List.all_map, List.all_eq_true] at hall
          exact hall f hf
        have hm' := hm F.toList hkn
        unfold Instr.build
        rw [Sem.run_bind, zero_ok (hT _ hk)]
        simp only [Result.andThen]
        rw [Sem.run_bind, run_underlying hd1]
        simp only [Result.andThen]
        have hm2 : (F.mapM (fun f => do let s ← sizeOf f.type; pure (f.offset, s) : Field → Sem (Nat × Nat))).run P w = .ok (F.toList.map fun f => (f.offset, (T f.type).size)).toArray w := by
          rw [Array.mapM_eq_mapM_toList]
          simp only [bind_pure_comp] at hm' ⊢
          simp [hm']
        have hf' := fill_ok _ _ _ hf
        have hpl : (fun (x : Nat) => ((F.toList.map fun f => (f.offset, (T f.type).size)).toArray)[x]?) = (fun (i : Nat) => ((F.toList.map fun f => (f.offset, f.type))[i]?).map fun (f : Nat × Nat) => (f.1, (T f.2).size)) := by
          funext x
          simp [List.getElem?_toArray, List.getElem?_map, Function.comp_def]
        rw [Sem.run_bind, hm2]
        simp only [Result.andThen]
        rw [hpl]
        simp only [Array.toArray_toList] at hf'
        rw [hf']
        simp
      · cases hd2
    · cases h
  · rename_i n e hk ht
    split at h
    · rename_i hke
      obtain ⟨cs, hf, h2⟩ := Option.map_eq_some_iff.1 h
      cases h2
      have h1 := (hT _ hk).td; rw [ht] at h1
      have hd1 : P.underlying t = some (.array n e) := h1
      have hz := size_ok (w := w) (hT _ hke)
      unfold Instr.build
      rw [Sem.run_bind, zero_ok (hT _ hk)]
      simp only [Result.andThen]
      rw [Sem.run_bind, run_underlying hd1]
      simp only [Result.andThen]
      rw [Sem.run_bind, hz]
      simp only [Result.andThen]
      have hf' := fill_ok _ _ _ hf
      simp only [Array.toArray_toList] at hf'
      rw [hf']
      simp
    · cases h
  · cases h
theorem str_ok {w : World} {sT eT dT c : Nat} {A : Option Addr} {xs : List Int} (e1 : P.underlying sT = some (.slice eT)) (e2 : P.underlying eT = some (.int .u8)) (e3 : P.underlying dT = some .string)
    (h : (A = none ∧ xs = []) ∨ ∃ a, A = some a ∧ ∀ j v, (xs.map (Value.int .u8))[j]? = some v → w.cell? (a.add j) = some v) : (convert sT dT (.slice A xs.length c)).run P w = .ok (.string (strOfNums xs)) w := by
  rcases h with ⟨rfl, rfl⟩ | ⟨a, rfl, hc⟩
  · exact run_convert_bytes_nil w sT eT e1 e2 _ c dT e3
  · have hl : (loadCells a xs.length).run P w = .ok (xs.map (Value.int .u8)).toArray w := by
      have := run_loadCells_list (P := P) w a (xs.map (Value.int .u8)) hc
      simpa using this
    rw [run_convert_bytes_string w sT dT eT _ xs.length c e1 e2 e3, run_bytesToString w _ xs.length c xs hl, foldl_push_bytes]
    simp [strOfNums, ByteArray.empty, ByteArray.emptyWithCapacity]
    rfl
theorem stepOp_ok (hT : Tb.ok P T) {o : Oper} {ld v : Value} {c : C} (h : stepOp T E o.op ld = some (v, c)) (hc : c.holds w) :
    (execOp (ev E) o).run P w = .ok (.value v) w := by
  obtain ⟨dst, op, type, pos, after, guard⟩ := o
  simp only at h
  unfold stepOp at h
  split at h
  · cases h; simp [execOp]
  · cases h; simp [execOp]
  · split at h
    · rename_i hb; cases h; simp [execOp, hb, asBool]
    · rename_i hb; cases h; simp [execOp, hb, asBool]
    · cases h
  · rename_i op t x y ty
    have := binV_ok (w := w) (x := x) (y := y) hT h hc
    simp [execOp, this.1, this.2]
  · rename_i op t x
    obtain ⟨u, hu, h2⟩ := Option.map_eq_some_iff.1 h
    cases h2
    unfold unV at hu
    split at hu <;> first | (rename_i hx; cases hu; simp [execOp, hx, Op.unary, Op.intArith, Op.intBits]; done) | cases hu
  · split at h
    · rename_i hs hsd hd hk hv
      cases h
      have h1 := (hT _ hd).td; rw [hk] at h1
      have h2 := (hT _ hs).td; rw [hsd] at h2
      simp only [TD.ok] at h1 h2
      simp [execOp, hv, convert, run_underlying h2, run_underlying h1, Conv.intToInt]
    · rename_i es A n cc hs1 hs2 hd1 hd2 hv
      split at h
      · rename_i bs he1 he2
        cases h
        have e1 := (hT _ hs1).td; rw [hs2] at e1
        have e2 := (hT _ he1).td; rw [he2] at e2
        have e3 := (hT _ hd1).td; rw [hd2] at e3
        simp only [TD.ok] at e1 e2 e3
        simp only [C.holds] at hc
        obtain ⟨xs, rfl, rfl, hc⟩ := hc
        have run := str_ok (P := P) (w := w) (c := cc) e1 e2 e3 hc
        simp [execOp, hv, run]
      · cases h
    · cases h
  · split at h
    · rename_i hv; cases h; simp [execOp, hv]
    · cases h
  · split at h
    · rename_i fs a hk ht hv
      split at h
      · rename_i off ft hf
        split at h
        · rename_i hz
          cases h
          simp only [Bool.and_eq_true, bne_iff_ne] at hz
          have h1 := (hT _ hk).td; rw [ht] at h1
          obtain ⟨F, hu, hF⟩ := strct_ok h1
          obtain ⟨f, hf1, hf2, hf3⟩ := field_at hF hf
          have h2 := hT _ hz.1
          subst hf2; subst hf3
          simp [execOp, hv, Instr.fieldAt, run_underlying hu, hf1, Instr.sureAddr, fieldPlace, size_ok h2, hz.2, plus_eq]
        · cases h
      · cases h
    · cases h
  · split at h
    · rename_i fs cs hk ht hv
      split at h
      · rename_i off ft hf
        obtain ⟨u, hu, h2⟩ := Option.map_eq_some_iff.1 h
        cases h2
        have h1 := (hT _ hk).td; rw [ht] at h1
        obtain ⟨F, hU, hF⟩ := strct_ok h1
        obtain ⟨f, hf1, hf2, hf3⟩ := field_at hF hf
        subst hf2; subst hf3
        have := part_ok (w := w) hT hu
        simp only [Array.toArray_toList] at this
        simp [execOp, hv, Instr.field, run_underlying hU, hf1, asAgg, this]
      · cases h
    · cases h
  · split at h
    · rename_i e a len cap k n hk ht hv hi
      split at h
      · rename_i he
        cases h
        have h1 := (hT _ hk).td; rw [ht] at h1
        simp only [TD.ok] at h1
        simp only [C.holds] at hc
        simp [execOp, hv, hi, Instr.indexAt, asIntOf, run_underlying h1, hc, size_ok (hT _ he), plus_eq]
      · cases h
    · rename_i len e a k n hk ht hv hi
      split at h
      · rename_i he
        cases h
        have h1 := (hT _ hk).td; rw [ht] at h1
        simp only [TD.ok] at h1
        simp only [C.holds] at hc
        simp [execOp, hv, hi, Instr.indexAt, asIntOf, run_underlying h1, Instr.sureAddr, hc, size_ok (hT _ he), plus_eq]
      · cases h
    · cases h
  · split at h
    · rename_i s k n hk ht hv hi
      cases h
      have h1 := (hT _ hk).td; rw [ht] at h1
      simp only [TD.ok] at h1
      simp only [C.holds] at hc
      have hlt : n.toNat < s.size := by omega
      simp [execOp, hv, hi, Instr.index, asIntOf, run_underlying h1, hc.1, hlt, byteAt]
      rfl
    · rename_i len e cs k n hk ht hv hi
      split at h
      · rename_i he
        obtain ⟨u, hu, h2⟩ := Option.map_eq_some_iff.1 h
        cases h2
        have h1 := (hT _ hk).td; rw [ht] at h1
        simp only [TD.ok] at h1
        simp only [C.holds] at hc
        have := part_ok (w := w) hT hu
        simp only [Array.toArray_toList] at this
        simp [execOp, hv, hi, Instr.index, asIntOf, run_underlying h1, hc, size_ok (hT _ he), this]
      · cases h
    · cases h
  · have := sliceV_ok hT h hc
    simp [execOp, this]
  · rename_i x i
    split at h
    · rename_i vs hv
      obtain ⟨u, hu, h2⟩ := Option.map_eq_some_iff.1 h
      cases h2
      have : vs[i]? = some v := by simpa using hu
      simp [execOp, hv, Instr.extract, this]
    · cases h
  · cases h
    simp [execOp, Instr.makeFunc]
    exact ⟨Array.ext' (by simp), Array.ext' (by simp)⟩
  · split at h
    · rename_i hk ht hv
      cases h
      have h1 := (hT _ hk).td; rw [ht] at h1
      simp only [TD.ok] at h1
      simp [execOp, resolve, invoke, hv, builtin, Builtin.len_, run_underlying h1, goInt]
    · rename_i hk ht hv
      cases h
      have h1 := (hT _ hk).td; rw [ht] at h1
      simp only [TD.ok] at h1
      simp [execOp, resolve, invoke, hv, builtin, Builtin.len_, run_underlying h1, goInt]
    · cases h
  · split at h
    · rename_i hv1 hv2
      cases h
      simp [execOp, resolve, invoke, hv1, hv2, builtin, Builtin.min_, Builtin.min2]
    · cases h
  · split at h
    · rename_i hv1 hv2
      cases h
      simp [execOp, resolve, invoke, hv1, hv2, builtin, Builtin.max_, Builtin.max2]
    · cases h
  · rename_i t x
    split at h
    · rename_i ad cs hk ht hv
      cases h
      simp only [C.holds] at hc
      have := TD.agg_ok (w := w) (hT _ hk).td ht
      have hl := run_loadCells_list (P := P) (w := w) ad cs.toList (fun j v hj => by rw [← plus_eq]; exact hc.2 j v hj)
      rw [hc.1] at hl
      simp only [Array.toArray_toList] at hl
      simp [execOp, hv, Instr.loadAt, Instr.sureAddr, loadVar, this, size_ok (hT _ hk), hl]
    · rename_i ad hk ht hv
      cases h
      simp only [C.holds] at hc
      have := TD.agg_ok (w := w) (hT _ hk).td ht
      simp [execOp, hv, Instr.loadAt, Instr.sureAddr, loadVar, this, hc]
    · cases h
  · rename_i t parts
    have hb := build_ok (w := w) hT h
    have e : (List.map (fun p => (p.1, ev E p.2)) parts.toList).toArray = parts.map fun x => (x.1, ev E x.2) := Array.ext' (by simp)
    rw [e] at hb
    simp [execOp, hb, Result.andThen]
  · cases h
end Go.SX
