/- SX, part g: operations that make or write memory. -/
import Derived.Test.YtclnddebhjjpfaaDoorSXf
import Derived.Laws.MakeOwn
import Derived.Laws.OwnMore
import Derived.Laws.CopyRow
import Derived.Maps.AppendAt
import Derived.Deep.OwnRows
namespace Go.SX
open Go Go.RowKit
variable {rd : Option Nat} {P : Program} {T : Tb} {E : List Value} {ds : List Deferred} {w w0 : World} {M I : Nat → Prop} {L : List It}

/-- An operation that makes a block: the value (by the block's number), the cells, their type, what it asks. -/
def newV (T : Tb) (E : List Value) : Op → Option ((Nat → Value) × List Value × Nat × C)
  | .alloc e => if (T e).known then some (fun b => .pointer (some ⟨b, 0, none⟩), (T e).zero.cells.toList, e, .tt) else none
  | .box e x => some (fun b => .pointer (some ⟨b, 0, none⟩), (ev E x).cells.toList, e, .tt)
  | .buildSlice t len parts => match (T t).known, (T t).td with
    | true, .slice e =>
      if (T e).known = true ∧ len * (T e).size ≤ 16777216 ∧ (T e).zero.cells.toList.length = (T e).size then
        (fillL (fun i => some (i * (T e).size, (T e).size)) ((List.range (len * (T e).size)).map fun i => (T e).zero.cells.toList.getD (i % (T e).size) undef) (parts.toList.map fun p => (p.1, ev E p.2))).map fun cs =>
          (fun b => .slice (some ⟨b, 0, none⟩) len len, cs, e, .tt)
      else none
    | _, _ => none
  | .makeSlice t l c => match (T t).known, (T t).td, ev E l, ev E c with
    | true, .slice e, .int _ n, .int _ m =>
      if (T e).known = true ∧ (T e).size = 1 ∧ (T e).zero.oneCell' = true then
        some (fun b => .slice (some ⟨b, 0, none⟩) n.toNat m.toNat, List.replicate m.toNat (T e).zero, e, .both (.cut 0 n m m) (.le ((T e).bytes * m.toNat + m.toNat) 140737488355328))
      else none
    | _, _, _, _ => none
  | _ => none
theorem newV_ok (hT : Tb.ok P T) {o : Oper} {f : Nat → Value} {cs : List Value} {e : Nat} {c : C} (h : newV T E o.op = some (f, cs, e, c)) (hc : c.holds w) :
    (execOp (ev E) o).run P w = .ok (.value (f w.heap.size)) (w.alloc (.cells cs.toArray e)) ∧ (∀ c, o.op ≠ .defer c) := by
  obtain ⟨dst, op, type, pos, after, guard⟩ := o
  simp only at h ⊢
  unfold newV at h
  split at h
  · rename_i t
    split at h
    · rename_i hk
      cases h
      refine ⟨?_, by simp⟩
      simp [execOp, Instr.alloc, zero_ok (hT _ hk), newVar, newRow]
    · cases h
  · cases h
    refine ⟨?_, by simp⟩
    simp [execOp, Instr.box, newVar, newRow]
  · rename_i t len parts
    split at h
    · rename_i e hk ht
      split at h
      · rename_i hc'
        obtain ⟨r, hr, h2⟩ := Option.map_eq_some_iff.1 h
        cases h2
        refine ⟨?_, by simp⟩
        have h1 := (hT _ hk).td; rw [ht] at h1
        simp only [TD.ok] at h1
        have hf := fill_ok _ _ _ hr
        have hz : ((Array.range (len * (T e).size)).map ((if len * (T e).size = 0 then #[] else (T e).zero.cells)[· % (if len * (T e).size = 0 then #[] else (T e).zero.cells).size]!)) = ((List.range (len * (T e).size)).map fun i => (T e).zero.cells.toList.getD (i % (T e).size) undef).toArray := by
          apply Array.ext'
          simp only [Array.toList_map, Array.toList_range]
          apply List.map_congr_left
          intro i hi
          have hpos : len * (T e).size ≠ 0 := by have := List.mem_range.1 hi; omega
          have hs : 0 < (T e).size := Nat.pos_of_ne_zero fun h0 => hpos (by rw [h0]; rfl)
          have hlen : (T e).zero.cells.size = (T e).size := by simpa using hc'.2.2
          have hlt : i % (T e).size < (T e).zero.cells.size := by rw [hlen]; exact Nat.mod_lt _ hs
          rw [if_neg hpos, hlen]
          simp [hlt]
        have hbig : ¬ len * (T e).size > 2 ^ 24 := by have := hc'.2.1; simp only [Nat.reducePow]; omega
        simp only [execOp, Instr.buildSlice]
        simp [run_underlying h1, size_ok (hT _ hc'.1), hbig]
        by_cases h0 : len * (T e).size = 0
        · rw [if_pos h0]
          have hq : (Array.map (fun _ => (default : Value)) (Array.range (len * (T e).size))) = (List.map (fun i => (T e).zero.cells.toList.getD (i % (T e).size) undef) (List.range (len * (T e).size))).toArray := by rw [h0]; simp
          rw [hq, hf]
          simp [newRow]
        · rw [if_neg h0]
          simp only [if_neg h0] at hz
          simp only [zero_ok (hT _ hc'.1), Result.andThen]
          rw [hz, hf]
          simp [newRow]
      · cases h
    · cases h
  · rename_i t l c'
    split at h
    · rename_i e k n k' m hk ht hl hm
      split at h
      · rename_i hc'
        cases h
        refine ⟨?_, by simp⟩
        have h1 := (hT _ hk).td; rw [ht] at h1
        simp only [TD.ok] at h1
        simp only [C.holds] at hc
        obtain ⟨⟨q0, q1, _, _⟩, q2⟩ := hc
        have hz : (T e).zero.cells = #[(T e).zero] := by
          have := hc'.2.2
          revert this
          cases (T e).zero <;> simp [Value.oneCell', Value.cells]
        have hi := (hT _ hc'.1).info
        obtain ⟨i, hi1, hi2⟩ := Option.map_eq_some_iff.1 hi
        simp only [Prod.mk.injEq] at hi2
        have w1 : IntKind.i64.wrap n = n := IntWalk.i64_in _ (by omega)
        have w2 : IntKind.i64.wrap m = m := IntWalk.i64_in _ (by omega)
        have hbm : ((T e).bytes : Int) * m = (((T e).bytes * m.toNat : Nat) : Int) := by rw [Int.natCast_mul, Int.toNat_of_nonneg (by omega)]
        have hno : ¬ (((m < 0 ∨ 281474976710656 < ((T e).bytes : Int) * m) ∨ n < 0) ∨ m < n) := by rw [hbm]; omega
        simp [execOp, Instr.makeSlice, hl, hm, run_underlying h1, asInt, asIntOf, typeInfo, hi1, w1, w2, hi2.2.1]
        rw [if_neg hno]
        simp [size_ok (hT _ hc'.1), zero_ok (hT _ hc'.1), hc'.2.1, hz, newRow]
        have hr : (Array.map (fun x => [(T e).zero][x % 1]?.getD default) (Array.range m.toNat)) = Array.replicate m.toNat (T e).zero := by
          apply Array.ext'
          simp [Nat.mod_one, List.map_const']
        split
        · have : m.toNat = 0 := by omega
          rw [this]
          have hq : Array.map (fun _ => (default : Value)) (Array.range 0) = #[] := by simp
          simp [hq]
        · rw [hr]
      · cases h
    · cases h
  · cases h

/-! ### Made: the rules -/
theorem RW.new (hT : Tb.ok P T) {ops : List Oper} {K : Kont} {o : Oper} {rest : List Oper} {f : Nat → Value} {cs : List Value} {e : Nat} {c : C} (s : St w0 M I L w) (hw : want ops E o = true) (h : newV T E o.op = some (f, cs, e, c)) (hc : c.holds w)
    (hk : ∀ w1 b, St w0 M I (.blk b (.cells cs.toArray e) :: L) w1 → Kp I w I w1 → Below w.heap.size w w1 → RW rd P ops.toArray K rest (ac (putE E o.dst (f b)) ds) w1) : RW rd P ops.toArray K (o :: rest) (ac E ds) w := by
  obtain ⟨h1, h2⟩ := newV_ok (w := w) hT h hc
  exact RW.eff hw h2 h1 (hk _ _ (s.alloc _) (Kp.alloc s _) (below_alloc _ _))
theorem RD.new (hT : Tb.ok P T) {ops : List Oper} {K : Kont} {S : World → Prop} {m i : Nat} {o : Oper} {listed : List Bool} {f : Nat → Value} {cs : List Value} {e : Nat} {c : C} (s : St w0 M I L w) (hi : ops[i]? = some o) (ho : only ops listed i = true) (hw : want ops E o = true)
    (h : newV T E o.op = some (f, cs, e, c)) (hc : c.holds w)
    (hk : ∀ w1 b, St w0 M I (.blk b (.cells cs.toArray e) :: L) w1 → Kp I w I w1 → Below w.heap.size w w1 → (i < m → S w1) ∧ RD rd P ops K S m (listed.set i true) (putE E o.dst (f b)) ds w1) : RD rd P ops K S m listed E ds w := by
  obtain ⟨h1, h2⟩ := newV_ok (w := w) hT h hc
  have := hk _ _ (s.alloc _) (Kp.alloc s _) (below_alloc _ _)
  exact RD.eff hi ho hw h2 h1 this.1 this.2

/-! ### Stores -/
theorem grownBy_setRow {g : Nat} {cs : Array Value} : w.grownBy (w.setRow g cs) (some g) :=
  ⟨rfl, rfl, rfl, by simp [World.setRow], fun k _ hne => by
    have hne' : g ≠ k := fun h => hne (by rw [h])
    simp [World.setRow, Array.getElem?_modify, hne']⟩
theorem setL_eq (vs : List Value) : ∀ (cs : List Value) (off : Nat), off + vs.length ≤ cs.length → cs.take off ++ vs ++ cs.drop (off + vs.length) = setL cs off vs := by
  induction vs with
  | nil => intro cs off _; simp [setL]
  | cons v vs ih =>
    intro cs off h
    simp only [List.length_cons] at h
    simp only [setL]
    rw [← ih _ _ (by simp; omega)]
    have := list_seg_step cs off v vs (by omega)
    exact this.symm
/-- A store into a block of one's own: block, offset, type, cells. -/
def storeV (T : Tb) (E : List Value) : Op → Option (Nat × Nat × Nat × List Value)
  | .store t a x => match ev E a with
    | .pointer (some ⟨b, off, none⟩) => if (T t).known then some (b, off, (T t).size, (ev E x).cells.toList) else none
    | _ => none
  | _ => none
theorem store_ok (hT : Tb.ok P T) {o : Oper} {b off n : Nat} {vs cs : List Value} {e : Nat} (h : storeV T E o.op = some (b, off, n, vs)) (hn : vs.length = n) (h1 : ∀ v ∈ vs, v.oneCell' = true) (hb : w.heap[b]? = some (.cells cs.toArray e (0, 0))) (hl : off + vs.length ≤ cs.length) :
    (execOp (ev E) o).run P w = .ok .skip (w.setRow b (setL cs off vs).toArray) ∧ (∀ c, o.op ≠ .defer c) := by
  obtain ⟨dst, op, type, pos, after, guard⟩ := o
  simp only at h ⊢
  unfold storeV at h
  split at h
  · rename_i t a x
    split at h
    · rename_i b' off' hv
      split at h
      · rename_i hk
        cases h
        refine ⟨?_, by simp⟩
        have hst := run_storeCells_at P b off e (ev E x).cells.toList 0 cs.toArray w hb (by simpa using hl) h1
        simp only [Nat.add_zero] at hst
        rw [setL_eq _ _ _ (by simpa using hl)] at hst
        have hsz : (ev E x).cells.size = (T t).size := by simpa using hn
        simp [execOp, hv, Instr.storeAt, Instr.sureAddr, storeVar, size_ok (hT _ hk), hsz, hst]
      · cases h
    · cases h
  · cases h
theorem St.stored (s : St w0 M I L w) {i b : Nat} {cs cs' : List Value} {e : Nat} (h : L[i]? = some (.blk b (.cells cs.toArray e (0, 0)))) :
    St w0 M I (L.set i (.blk b (.cells cs'.toArray e (0, 0)))) (w.setRow b cs'.toArray) :=
  s.turn h (grownBy_setRow (g := b)) (setRow_heap w b cs.toArray cs'.toArray e (0, 0) (s.at h)) (fun _ hc => .inl hc)
theorem Kp.stored (s : St w0 M I L w) {i b : Nat} {cs cs' : List Value} {e : Nat} (h : L[i]? = some (.blk b (.cells cs.toArray e (0, 0)))) : Kp I w I (w.setRow b cs'.toArray) :=
  Kp.turn s h (grownBy_setRow (g := b))
end Go.SX
