/- SX, part s: arrays of numbers as values; loops of few rounds; slices turned into arrays. -/
import Derived.Test.YtclnddebhjjpfaaDoorSXr
import Derived.ChangeKeysEq
namespace Go.SX
open Go Go.RowKit
variable {rd : Option Nat} {P : Program} {T : Tb} {K : Kont} {Q : Post} {E : List Value} {ds : List Deferred} {w w0 w1 : World} {M I : Nat → Prop} {L : List It}

/-! ### A loop of few rounds -/
def Rounds (rd : Option Nat) (P : Program) (c : Code) (Q : Post) : Nat → Kont
  | 0, _, _, _ => False
  | m + 1, E, ds, w => WPK rd P c (Rounds rd P c Q m) Q E ds w
theorem Rounds.go {c : Code} {m : Nat} (h : WPK rd P c (Rounds rd P c Q m) Q E ds w) : Rounds rd P c Q (m + 1) E ds w := h
theorem WPK.rounds {c : Code} (m : Nat) (h : Rounds rd P c Q m E ds w) : WPK rd P (.loop c) K Q E ds w := by
  refine WPK.loop (I := fun m E ds w => Rounds rd P c Q m E ds w) m h (fun _ _ _ h => h) ?_
  intro n E ds w h
  exact WPK.mono h (fun E ds w h => ⟨n, Nat.le_refl _, h⟩) (fun _ _ _ _ h => h)

/-! ### Arrays of numbers -/
theorem repl_map {k : IntKind} : ∀ {xs : List Int}, RepL (Rp.int k) I w (xs.map (Value.int k)) xs
  | [] => rfl
  | x :: xs => ⟨[.int k x], xs.map (Value.int k), rfl, rfl, repl_map⟩
theorem St.arr (s : St w0 M I L w) {i b c e size n : Nat} {k : IntKind} {cl : List Value} {xs : List Int} {N : Nat} (hL : L[i]? = some (.sl (.slice (some ⟨b, 0, none⟩) n c) e size n cl)) (rp : RepL (Rp.int k) I w cl xs) (hN : N = xs.length) :
    (C.cells ⟨b, 0, none⟩ (xs.map (Value.int k)) N).holds w := by
  have h := repl_int rp
  subst h
  exact ⟨by simp [hN], row_cell (s.at hL)⟩
theorem Elems.arr {b o N : Nat} {k : IntKind} {xs : List Int} (e : Elems (Rp.int k) I w (some ⟨b, o, none⟩) xs) (hN : N ≤ xs.length) : (C.cells ⟨b, o, none⟩ ((xs.take N).map (Value.int k)) N).holds w := by
  refine ⟨by simp; omega, fun j v hj => ?_⟩
  simp only [List.getElem?_map, List.getElem?_take] at hj
  split at hj
  · obtain ⟨x, hx, rfl⟩ := Option.map_eq_some_iff.1 hj
    obtain ⟨cs, h1, h2⟩ := e.get hx
    have h1 : cs = [.int k x] := h1
    subst h1
    have := h2 0 _ rfl
    have hn : (Rp.int k).n = 1 := rfl
    rw [hn, Nat.mul_one] at this
    exact this
  · cases hj
theorem St.arrPt (s : St w0 M I L w) {i b c e size n o m d : Nat} {l h : Int} {k : IntKind} {cl : List Value} {xs ys : List Int} {N : Nat} (hL : L[i]? = some (.sl (.slice (some ⟨b, 0, none⟩) n c) e size n cl)) (hs : size = 1) (rp : RepL (Rp.int k) I w cl xs) (p : Pt o m d size l h n) (g : cutI xs l h = some ys) (hN : N ≤ ys.length) (hpos : 0 < N) :
    (C.cells ⟨b, o, none⟩ ((ys.take N).map (Value.int k)) N).holds w := by
  have hh := repl_int rp
  subst hh
  subst hs
  obtain ⟨⟨g1, g2, g3⟩, g4, g5⟩ := cutS g
  have q1 := p.len
  refine ⟨by simp; omega, fun j v hj => ?_⟩
  rw [p.off (by omega), Nat.mul_one]
  have := row_cell (s.at hL) (l.toNat + j) v (by
    rw [List.getElem?_map, List.getElem?_take] at hj
    split at hj
    · rw [g4, List.getElem?_take] at hj
      split at hj
      · simpa [List.getElem?_map, List.getElem?_drop] using hj
      · simp at hj
    · simp at hj)
  show w.cell? ⟨b, l.toNat + j, none⟩ = some v
  rw [show l.toNat + j = 0 + (l.toNat + j) by omega]
  exact this
/-- The head of a slice, as an array: its address. -/
def headV (E : List Value) : Op → Option (Nat × Value)
  | .sliceToArrayPointer t x => some (t, ev E x)
  | _ => none
theorem OK.head (hT : Tb.ok P T) {o : Oper} {K : Act → World → Prop} {t N e n c : Nat} {A : Option Addr} (h : headV E o.op = some (t, .slice A n c)) (hk : (T t).known = true) (ht : (T t).td = .arr N e) (hn : N ≤ n)
    (hK : K (ac (putE E o.dst (.pointer A)) ds) w) : opK rd P o K (ac E ds) w := by
  obtain ⟨dst, op, type, pos, after, guard⟩ := o
  simp only at h hK
  unfold headV at h
  split at h
  · rename_i t' x
    simp only [Option.some.injEq, Prod.mk.injEq] at h
    obtain ⟨rfl, hx⟩ := h
    have h1 := (hT _ hk).td; rw [ht] at h1
    simp only [TD.ok] at h1
    refine opK_eff (by simp) ?_ hK
    simp [execOp, hx, Instr.arrayAt, run_underlying h1, show ¬ n < N by omega]
  · cases h
theorem Elems.some_of {τ : Type} {r : Rp τ} {A : Option Addr} {xs : List τ} (e : Elems r I w A xs) {N : Nat} (h : N ≤ xs.length) (hpos : 0 < N) : ∃ b o, A = some ⟨b, o, none⟩ := by
  have hx : xs ≠ [] := by intro h0; subst h0; simp at h; omega
  obtain ⟨b, o, hA, _⟩ := e hx
  exact ⟨b, o, hA⟩
/-- Two arrays of numbers, compared. -/
theorem eqItems_int {d e : Nat} {k : IntKind} (he : P.underlying e = some (.int k)) (hp : ∀ (cs : Array Value) (i : Nat) (v : Value), cs[i]? = some v → (part e cs i).run P w = .ok v w) (N : Nat) :
    ∀ (is : List Nat) (xs ys : List Int), (∀ i ∈ is, i < xs.length) → (∀ i ∈ is, i < ys.length) →
      (Op.eqItems (d + 1) e 1 (xs.map (Value.int k)).toArray (ys.map (Value.int k)).toArray is).run P w = .ok (decide (∀ i ∈ is, xs[i]? = ys[i]?)) w
  | [], xs, ys, _, _ => by simp [Op.eqItems]
  | i :: is, xs, ys, h1, h2 => by
    have hi1 := h1 i (List.mem_cons_self ..)
    have hi2 := h2 i (List.mem_cons_self ..)
    have ih := eqItems_int (d := d) he hp N is xs ys (fun j hj => h1 j (List.mem_cons_of_mem _ hj)) (fun j hj => h2 j (List.mem_cons_of_mem _ hj))
    have e1 := hp (xs.map (Value.int k)).toArray i (.int k xs[i]) (by simp [hi1])
    have e2 := hp (ys.map (Value.int k)).toArray i (.int k ys[i]) (by simp [hi2])
    have e3 : (Op.equalIn (d + 1) e (.int k xs[i]) (.int k ys[i])).run P w = .ok (xs[i] == ys[i]) w := by
      unfold Op.equalIn
      simp [run_underlying he]
    simp only [Op.eqItems, Nat.mul_one, Sem.run_bind, e1, e2, e3, Result.andThen_ok]
    by_cases hx : xs[i] = ys[i]
    · have : (!(xs[i] == ys[i])) = false := by simp [hx]
      simp only [this, Bool.false_eq_true, if_false, ih]
      congr 2
      have hh : xs[i]? = ys[i]? := by rw [List.getElem?_eq_getElem hi1, List.getElem?_eq_getElem hi2, hx]
      simp [hh]
    · have : (!(xs[i] == ys[i])) = true := by simp [hx]
      simp only [this, if_true, Sem.run_pure]
      congr 1
      symm
      rw [decide_eq_false_iff_not]
      intro h
      have := h i (List.mem_cons_self ..)
      rw [List.getElem?_eq_getElem hi1, List.getElem?_eq_getElem hi2] at this
      exact hx (Option.some.inj this)
def arrCmp (E : List Value) : Op → Option (Bool × Nat × Value × Value)
  | .binOp .eql t x y _ => some (true, t, ev E x, ev E y)
  | .binOp .neq t x y _ => some (false, t, ev E x, ev E y)
  | _ => none
theorem OK.arrEq (hT : Tb.ok P T) {o : Oper} {K : Act → World → Prop} {t N e : Nat} {k : IntKind} {b : Bool} {xs ys : List Int} (h : arrCmp E o.op = some (b, t, .agg (List.map (Value.int k) xs).toArray, .agg (List.map (Value.int k) ys).toArray))
    (hg : P.eqGuardType P.depth t = false) (hk : (T t).known = true) (ht : (T t).td = .arr N e) (hek : (T e).known = true) (het : (T e).td = .int k) (hes : (T e).size = 1) (h1 : N = xs.length) (h2 : N = ys.length)
    (hK : K (ac (putE E o.dst (.bool (if b then decide (xs = ys) else decide (xs ≠ ys)))) ds) w) : opK rd P o K (ac E ds) w := by
  have u1 := (hT _ hk).td; rw [ht] at u1
  have u2 := (hT _ hek).td; rw [het] at u2
  simp only [TD.ok] at u1 u2
  obtain ⟨inf, hi1, hi2⟩ := Option.map_eq_some_iff.1 (hT _ hek).info
  simp only [Prod.mk.injEq] at hi2
  have hcells : P.cellsOf e = 1 := by simp [Program.cellsOf, hi1, hi2.1, hes]
  have hpart : ∀ (cs : Array Value) (i : Nat) (v : Value), cs[i]? = some v → (part e cs i).run P w = .ok v w := by
    intro cs i v hv
    have := part_ok (w := w) (T := T) (t := e) (cs := cs.toList) (off := i) (v := v) hT (by unfold partV; rw [hek, het]; simp [TD.agg, hv])
    simpa using this
  have heq : (Op.equal t (.agg (List.map (Value.int k) xs).toArray) (.agg (List.map (Value.int k) ys).toArray)).run P w = .ok (decide (xs = ys)) w := by
    unfold Op.equal
    obtain ⟨dd, hdd⟩ : ∃ dd, Op.maxDepth = dd + 1 + 1 := ⟨Op.maxDepth - 2, by unfold Op.maxDepth; rfl⟩
    rw [hdd, run_equalIn_array _ _ _ _ u1 hi1, hcells, eqItems_int u2 hpart N (List.range N) xs ys (fun i hi => by have := List.mem_range.1 hi; omega) (fun i hi => by have := List.mem_range.1 hi; omega)]
    congr 1
    rw [decide_eq_decide]
    constructor
    · intro h
      apply List.ext_getElem?
      intro i
      by_cases hi : i < N
      · exact h i (List.mem_range.2 hi)
      · rw [List.getElem?_eq_none (by omega), List.getElem?_eq_none (by omega)]
    · rintro rfl i _; rfl
  obtain ⟨dst, op, type, pos, after, guard⟩ := o
  simp only at h hK
  unfold arrCmp at h
  have hguard : ∀ (op : BinOp) (x y : Operand) (xs ys : Array Value), (eqGuard op t x y (.agg xs) (.agg ys)).run P w = .ok () w := by
    intro op x y xs ys
    unfold eqGuard
    cases op <;> simp [program, Sem.run, hg, Bind.bind, Sem.bind] <;> rfl
  split at h
  · rename_i t' x y ty
    simp only [Option.some.injEq, Prod.mk.injEq] at h
    obtain ⟨rfl, rfl, hx, hy⟩ := h
    refine opK_eff (by simp) ?_ hK
    have : binOp .eql t' (.agg (List.map (Value.int k) xs).toArray) (.agg (List.map (Value.int k) ys).toArray) = (do Pure.pure (Value.bool (← Op.equal t' (.agg (List.map (Value.int k) xs).toArray) (.agg (List.map (Value.int k) ys).toArray)))) := rfl
    simp [execOp, hx, hy, hguard, this, heq, Result.andThen]
  · rename_i t' x y ty
    simp only [Option.some.injEq, Prod.mk.injEq] at h
    obtain ⟨rfl, rfl, hx, hy⟩ := h
    refine opK_eff (by simp) ?_ hK
    have : binOp .neq t' (.agg (List.map (Value.int k) xs).toArray) (.agg (List.map (Value.int k) ys).toArray) = (do Pure.pure (Value.bool (!(← Op.equal t' (.agg (List.map (Value.int k) xs).toArray) (.agg (List.map (Value.int k) ys).toArray))))) := rfl
    simp [execOp, hx, hy, hguard, this, heq, Result.andThen]
  · cases h
end Go.SX
namespace Go.SX
open Go Go.RowKit
variable {w : World} {I : Nat → Prop}
/-- A part of what is only read. -/
theorem Elems.part {τ : Type} {r : Rp τ} {xs ys : List τ} {b c o m d size n : Nat} {l h : Int} (hs : size = r.n) (e : Elems r I w (some ⟨b, 0, none⟩) xs) (hc : xs.length ≤ c ∧ c ≤ 9223372036854775807) (p : Pt o m d size l h n) (hd : d ≤ c) (g : cutI xs l h = some ys) :
    m = ys.length ∧ (ys.length ≤ d ∧ d ≤ 9223372036854775807) ∧ Elems r I w (some ⟨b, o, none⟩) ys := by
  obtain ⟨⟨g1, g2, g3⟩, g4, g5⟩ := cutS g
  have q1 := p.len
  have q2 := p.cap
  have hm : m = ys.length := by omega
  refine ⟨hm, ⟨by omega, by omega⟩, fun hne => ?_⟩
  have hpos : ys.length ≠ 0 := fun h0 => hne (List.eq_nil_of_length_eq_zero h0)
  have hx : xs ≠ [] := by intro h0; subst h0; rw [g4] at hpos; simp at hpos
  obtain ⟨b', o', hA, hb, hcs⟩ := e hx
  cases hA
  refine ⟨b, o, rfl, hb, fun j x hx => ?_⟩
  have hx' : xs[l.toNat + j]? = some x := by
    rw [g4, List.getElem?_take] at hx
    split at hx
    · simpa using hx
    · cases hx
  obtain ⟨cs, h1, h2⟩ := hcs _ _ hx'
  refine ⟨cs, h1, fun k v hv => ?_⟩
  have := h2 k v hv
  rw [p.off (by omega), hs]
  rw [show l.toNat * r.n + j * r.n + k = 0 + (l.toNat + j) * r.n + k by rw [Nat.add_mul]; omega]
  exact this
end Go.SX
