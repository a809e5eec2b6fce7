/- SX, part t: what is handed in, opened: data that can be read are told in memory. -/
import Derived.Test.YtclnddebhjjpfaaDoorSXs
import Derived.ChangeSlices
import Derived.ChangeOld
import Derived.OpenShut
namespace Go.SX
open Go Go.RowKit
variable {P : Program} {T : Tb} {w : World}

def All (w : World) : Nat → Prop := fun b => b < w.heap.size
/-- What reads as a datum of type t is told by r. -/
def Opens {τ : Type} (P : Program) (t : Nat) (r : Rp τ) (ok : τ → Prop) : Prop :=
  ∀ {H : Type} (enc : TypeId × Value → H) (w : World) (base : Nat) (sp : Nat → Bool) (held : Bool) (fuel : Nat) (cs : List Value) (x : DataW H × List MemPlace),
    DataW.trod enc P w base sp held fuel t cs = some x → ∃ y, r.rep (All w) w cs y ∧ ok y
theorem Opens.int {t : Nat} {k : IntKind} (h : P.underlying t = some (.int k)) : Opens P t (Rp.int k) (fun n => (Lit.int k n).wf = true) := by
  intro H enc w base sp held fuel cs x hx
  cases fuel with
  | zero => simp [DataW.trod] at hx
  | succ fuel =>
    simp only [DataW.trod, h] at hx
    split at hx <;> simp_all
    rename_i k' n hk
    obtain ⟨rfl, rfl⟩ := hk
    exact ⟨n, rfl, hx.1.2⟩
theorem Opens.bool {t : Nat} (h : P.underlying t = some .bool) : Opens P t Rp.bool (fun _ => True) := by
  intro H enc w base sp held fuel cs x hx
  cases fuel with
  | zero => simp [DataW.trod] at hx
  | succ fuel =>
    simp only [DataW.trod, h] at hx
    split at hx <;> first | (exfalso; simp_all; done) | exact ⟨_, rfl, trivial⟩
theorem Opens.str {t : Nat} (h : P.underlying t = some .string) : Opens P t Rp.str (fun s => s.size ≤ 9223372036854775807) := by
  intro H enc w base sp held fuel cs x hx
  cases fuel with
  | zero => simp [DataW.trod] at hx
  | succ fuel =>
    simp only [DataW.trod, h] at hx
    split at hx <;> first | (exfalso; simp_all; done) | skip
    rename_i s _
    split at hx
    · rename_i hs
      exact ⟨s, rfl, by simpa [maxLen] using hs⟩
    · cases hx
theorem mapM_get {α β : Type} {f : α → Option β} : ∀ {l : List α} {ys : List β}, l.mapM f = some ys → l.length = ys.length ∧ ∀ (i : Nat) (a : α), l[i]? = some a → ∃ y, ys[i]? = some y ∧ f a = some y
  | [], ys, h => by simp at h; subst h; exact ⟨rfl, fun i a hi => by simp at hi⟩
  | a :: l, ys, h => by
    rw [List.mapM_cons] at h
    simp only [bind, Option.bind_eq_some_iff, pure, Option.some.injEq] at h
    obtain ⟨y, h1, zs, h2, rfl⟩ := h
    obtain ⟨h3, h4⟩ := mapM_get h2
    refine ⟨by simp [h3], fun i b hi => ?_⟩
    cases i with
    | zero => simp at hi; subst hi; exact ⟨y, rfl, h1⟩
    | succ i => simpa using h4 i b (by simpa using hi)
theorem cells_at {a : Addr} {base n : Nat} {cs : List Value} (h : w.cells? base a n = some cs) (hn : n ≠ 0) : a.spot = none ∧ a.block < w.heap.size ∧ cs.length = n ∧ At w a.block a.off cs := by
  unfold World.cells? at h
  split at h
  · obtain ⟨h1, h2⟩ := mapM_get h
    have key : ∀ i, i < n → ∃ v, cs[i]? = some v ∧ w.cell? (a.add i) = some v := fun i hi => h2 i i (by simp [hi])
    have sp : a.spot = none := by
      obtain ⟨v, _, hv⟩ := key 0 (by omega)
      unfold World.cell? at hv
      split at hv
      · split at hv
        · cases hv
        · rename_i hs
          simp only [Addr.add] at hs
          split at hs <;> simp_all
      · cases hv
    refine ⟨sp, ?_, by simpa using h1.symm, fun j v hj => ?_⟩
    · obtain ⟨v, _, hv⟩ := key 0 (by omega)
      unfold World.cell? at hv
      split at hv
      · rename_i c e hb
        have : (a.add 0).block = a.block := by unfold Addr.add; split <;> rfl
        rw [this] at hb
        exact lt_of_here hb
      · cases hv
    · have hj' : j < n := by
        have := (List.getElem?_eq_some_iff.1 hj).1
        simp at h1
        omega
      obtain ⟨u, hu, hv⟩ := key j hj'
      rw [hj] at hu
      cases hu
      obtain ⟨b, o, s⟩ := a
      simp only at sp
      subst sp
      rw [← plus_eq] at hv
      exact hv
  · cases h
theorem Opens.slice {τ : Type} {t e : Nat} {r : Rp τ} {ok : τ → Prop} (h : P.underlying t = some (.slice e)) (hn : P.cellsOf e = r.n) (hp : r.n ≠ 0) (ho : Opens P e r ok) :
    Opens P t (Rp.slice r) (fun xs => xs.length ≤ 9223372036854775807 ∧ ∀ x ∈ xs, ok x) := by
  intro H enc w base sp held fuel cs x hx
  cases fuel with
  | zero => simp [DataW.trod] at hx
  | succ fuel =>
    simp only [DataW.trod, h] at hx
    split at hx <;> first | (exfalso; simp_all; done) | skip
    · exact ⟨[], ⟨none, 0, rfl, by simp, by omega, Elems.nil⟩, by simp⟩
    · rename_i e' a len cap heq
      cases heq
      split at hx
      · rename_i hc
        obtain ⟨hb, hl, hm⟩ := hc
        obtain ⟨elems, h1, h2⟩ := Option.bind_eq_some_iff.1 hx
        obtain ⟨h3, h4⟩ := mapM_get h1
        have each : ∀ i, i < len → ∃ cs y, w.cells? base (a.add (i * r.n)) r.n = some cs ∧ r.rep (All w) w cs y ∧ ok y := by
          intro i hi
          obtain ⟨y, _, hy⟩ := h4 i i (by simp [hi])
          obtain ⟨cs, c1, c2⟩ := Option.bind_eq_some_iff.1 hy
          rw [hn] at c1
          obtain ⟨z, z1, z2⟩ := ho enc w base sp held fuel cs _ c2
          exact ⟨cs, z, c1, z1, z2⟩
        obtain ⟨xs, hxs, hall⟩ : ∃ xs : List τ, xs.length = len ∧ ∀ i x, xs[i]? = some x → ok x ∧ ∃ cs, w.cells? base (a.add (i * r.n)) r.n = some cs ∧ r.rep (All w) w cs x := by
          clear h1 h2 h3 h4 hx hl
          induction len with
          | zero => exact ⟨[], rfl, fun i x hi => by simp at hi⟩
          | succ m ih =>
            obtain ⟨xs, e1, e2⟩ := ih fun i hi => each i (by omega)
            obtain ⟨cs, y, c1, c2, c3⟩ := each m (by omega)
            refine ⟨xs ++ [y], by simp [e1], fun i x hi => ?_⟩
            rcases Nat.lt_or_ge i xs.length with hlt | hge
            · rw [List.getElem?_append_left hlt] at hi; exact e2 i x hi
            · rw [List.getElem?_append_right hge] at hi
              have : i - xs.length = 0 := by
                rcases Nat.eq_zero_or_pos (i - xs.length) with h0 | h0
                · exact h0
                · rw [List.getElem?_eq_none (by simp; omega)] at hi; cases hi
              rw [this] at hi
              simp at hi
              subst hi
              have : i = m := by omega
              subst this
              exact ⟨c3, cs, c1, c2⟩
        have hm' : cap ≤ 9223372036854775807 := by simpa [maxLen] using hm
        refine ⟨xs, ⟨some a, cap, by rw [hxs], by omega, hm', fun hne => ?_⟩, by omega, fun x hx => ?_⟩
        · have hpos : 0 < xs.length := List.length_pos_iff.2 hne
          obtain ⟨_, cs0, c1, _⟩ := hall 0 xs[0] (by simp)
          obtain ⟨s1, s2, _, _⟩ := cells_at c1 hp
          obtain ⟨b, o, s⟩ := a
          have hs : s = none := by
            unfold Addr.add at s1
            cases s <;> simp_all
          subst hs
          have hb0 : ((⟨b, o, none⟩ : Addr).add (0 * r.n)).block = b := by rw [← plus_eq]; rfl
          rw [hb0] at s2
          refine ⟨b, o, rfl, s2, fun i x hi => ?_⟩
          obtain ⟨_, cs, c1, c2⟩ := hall i x hi
          obtain ⟨_, _, _, h5⟩ := cells_at c1 hp
          rw [← plus_eq] at h5
          exact ⟨cs, c2, h5⟩
        · obtain ⟨i, hi⟩ := List.mem_iff_getElem?.1 hx
          exact (hall i x hi).1
      · cases hx
/-- The fields of a struct, from one on. -/
def OpensF {τ : Type} (P : Program) (off : Nat) (fs : List (Nat × Nat)) (r : Rp τ) (ok : τ → Prop) : Prop :=
  ∀ {H : Type} (enc : TypeId × Value → H) (w : World) (base : Nat) (sp : Nat → Bool) (held : Bool) (fuel : Nat) (cs : List Value) (xs : List (DataW H × List MemPlace)),
    (fs.mapM fun f => DataW.trod enc P w base sp held fuel f.2 ((cs.drop f.1).take (P.cellsOf f.2))) = some xs → cs.length = off + r.n → ∃ y, r.rep (All w) w (cs.drop off) y ∧ ok y
theorem OpensF.one {τ : Type} {t off : Nat} {r : Rp τ} {ok : τ → Prop} (hn : P.cellsOf t = r.n) (ho : Opens P t r ok) : OpensF P off [(off, t)] r ok := by
  intro H enc w base sp held fuel cs xs hx hl
  rw [List.mapM_cons] at hx
  simp only [bind, Option.bind_eq_some_iff, pure, Option.some.injEq] at hx
  obtain ⟨y, h1, _⟩ := hx
  rw [hn, List.take_of_length_le (by simp; omega)] at h1
  exact ho enc w base sp held fuel _ _ h1
theorem OpensF.cons {σ τ : Type} {t off m : Nat} {fs : List (Nat × Nat)} {r : Rp σ} {s : Rp τ} {ok : σ → Prop} {ok' : τ → Prop} (hn : P.cellsOf t = r.n) (ho : Opens P t r ok) (hm : off + r.n = m) (hf : OpensF P m fs s ok') :
    OpensF P off ((off, t) :: fs) (Rp.pair r s) (fun x => ok x.1 ∧ ok' x.2) := by
  intro H enc w base sp held fuel cs xs hx hl
  rw [List.mapM_cons] at hx
  simp only [bind, Option.bind_eq_some_iff, pure, Option.some.injEq] at hx
  obtain ⟨y, h1, ys, h2, _⟩ := hx
  have hl2 : cs.length = off + (r.n + s.n) := hl
  rw [hn] at h1
  obtain ⟨a, a1, a2⟩ := ho enc w base sp held fuel _ _ h1
  obtain ⟨b, b1, b2⟩ := hf enc w base sp held fuel cs ys h2 (by omega)
  refine ⟨(a, b), ⟨(cs.drop off).take r.n, cs.drop m, ?_, a1, b1⟩, a2, b2⟩
  rw [← hm, ← List.drop_drop, List.take_append_drop]
theorem Opens.struct {σ τ : Type} {t : Nat} {fs : List (Nat × Nat)} {r : Rp τ} {ok : τ → Prop} (f : σ → τ) (g : τ → σ) (hgf : ∀ x, f (g x) = x) (h : (P.underlying t).bind (fun d => match d with | .struct F => some (F.toList.map fun f => (f.offset, f.type)) | _ => none) = some fs) (hn : P.cellsOf t = r.n) (ho : OpensF P 0 fs r ok) :
    Opens P t (Rp.iso f r) (fun x => ok (f x)) := by
  intro H enc w base sp held fuel cs x hx
  obtain ⟨d, hd, h2⟩ := Option.bind_eq_some_iff.1 h
  split at h2
  · rename_i F
    cases h2
    cases fuel with
    | zero => simp [DataW.trod] at hx
    | succ fuel =>
      simp only [DataW.trod, hd] at hx
      split at hx
      · rename_i hl
        obtain ⟨xs, h3, _⟩ := Option.map_eq_some_iff.1 hx
        obtain ⟨y, y1, y2⟩ := ho enc w base sp held fuel cs xs (by rw [List.mapM_map]; exact h3) (by rw [hl, hn]; omega)
        refine ⟨g y, ?_, by show ok (f (g y)); rw [hgf]; exact y2⟩
        show r.rep _ _ _ (f (g y))
        rw [hgf]
        simpa using y1
      · cases hx
  · cases h2
end Go.SX
namespace Go.SX
open Go Go.RowKit
variable {P : Program} {T : Tb} {w : World}
theorem laid_ints {H : Type} {enc : TypeId × Value → H} {t e N base fuel : Nat} {sp : Nat → Bool} {held : Bool} {k : IntKind} {cs : List Value} {p : List MemPlace} {l : List Int} (hu : P.underlying t = some (.array N e)) (he : P.underlying e = some (.int k)) (hc : P.cellsOf e = 1) (hN : P.cellsOf t = N)
    (h : DataW.trod enc P w base sp held fuel t cs = some (.agg (l.map fun n => .lit (.int k n)), p)) : cs = l.map (Value.int k) := by
  cases fuel with
  | zero => simp [DataW.trod] at h
  | succ fuel =>
    simp only [DataW.trod, hu] at h
    split at h
    · rename_i hl
      obtain ⟨xs, h1, h2⟩ := Option.map_eq_some_iff.1 h
      obtain ⟨h3, h4⟩ := mapM_get h1
      simp only [List.length_range] at h3
      simp only [Prod.mk.injEq, DataW.agg.injEq] at h2
      obtain ⟨h5, _⟩ := h2
      rw [hN] at hl
      have hll : l.length = N := by
        have := congrArg List.length h5
        simp at this
        omega
      apply List.ext_getElem?
      intro i
      by_cases hi : i < N
      · obtain ⟨y, hy1, hy2⟩ := h4 i i (by simp [hi])
        rw [hc, Nat.mul_one] at hy2
        cases fuel with
        | zero => simp [DataW.trod] at hy2
        | succ fuel =>
          have hcs : (cs.drop i).take 1 = [cs[i]'(by omega)] := by
            rw [List.drop_eq_getElem_cons (by omega), List.take_succ_cons, List.take_zero]
          rw [hcs] at hy2
          simp only [DataW.trod, he] at hy2
          have hx5 : (xs.map (·.1))[i]? = (l.map fun n => (DataW.lit (.int k n) : DataW H))[i]? := by rw [h5]
          rw [List.getElem?_map, hy1, List.getElem?_map, List.getElem?_eq_getElem (show i < l.length by omega)] at hx5
          simp only [Option.map_some, Option.some.injEq] at hx5
          rw [List.getElem?_eq_getElem (by omega), List.getElem?_map, List.getElem?_eq_getElem (show i < l.length by omega)]
          simp only [Option.map_some, Option.some.injEq]
          split at hy2 <;> first | (exfalso; simp_all; done) | skip
          rename_i k' n hkk hnn
          simp only [List.cons.injEq, and_true] at hnn
          split at hy2
          · rename_i hw
            obtain ⟨rfl, _⟩ := hw
            simp only [Option.some.injEq] at hy2
            subst hy2
            simp only [DataW.lit.injEq, Lit.int.injEq] at hx5
            rw [hnn, hx5.1, hx5.2]
          · cases hy2
      · rw [List.getElem?_eq_none (by omega), List.getElem?_eq_none (by simp; omega)]
    · cases h
/-- What a table that the row lists holds. -/
theorem laid_tab {t e N g : Nat} {k : IntKind} {l : List Int} {name : String} {laid : List (String × DataW Unit)} (hm : laidMet P laid w) (hx : (name, DataW.agg (l.map fun n => .lit (.int k n))) ∈ laid)
    (hg : P.globalNamed name = some g) (ht : (P.globals[g]?).map (·.type) = some t) (hu : P.underlying t = some (.array N e)) (he : P.underlying e = some (.int k)) (hc : P.cellsOf e = 1) (hN : P.cellsOf t = N) :
    Elems (Rp.int k) (All w) w (some ⟨g, 0, none⟩) l := by
  obtain ⟨ps, hv, _⟩ := hm
  have key : ∀ (laid : List (String × DataW Unit)) ps, DataW.LaidVars P w laid ps → (name, DataW.agg (l.map fun n => .lit (.int k n))) ∈ laid → ∃ cs : Array Value, w.var? P name = some cs ∧ cs.toList = l.map (Value.int k) := by
    intro laid
    induction laid with
    | nil => intro ps _ h; cases h
    | cons x r ih =>
      intro ps hv hx
      obtain ⟨n, d⟩ := x
      obtain ⟨g', t', cs, fuel, p, q, e1, e2, e3, e4, e5, _⟩ := hv
      rcases List.mem_cons.1 hx with h0 | h0
      · cases h0
        rw [hg] at e1
        cases e1
        rw [ht] at e2
        cases e2
        exact ⟨cs, e3, laid_ints hu he hc hN e4⟩
      · exact ih q e5 h0
  obtain ⟨cs, h1, h2⟩ := key laid ps hv hx
  have hb : ∃ c e, w.heap[g]? = some (.cells cs c e) := by
    simp only [World.var?, hg, Option.bind_some] at h1
    split at h1
    · rename_i c a b hq
      cases h1
      exact ⟨_, _, hq⟩
    · cases h1
  obtain ⟨c, e', hb⟩ := hb
  refine fun _ => ⟨g, 0, rfl, lt_of_here hb, fun i x hi => ⟨[.int k x], rfl, fun j v hj => ?_⟩⟩
  have hn : (Rp.int k).n = 1 := rfl
  cases j with
  | zero =>
    simp at hj
    subst hj
    rw [World.var?_cell hg h1, hn]
    have : cs.toList[i]? = some (.int k x) := by rw [h2, List.getElem?_map, hi]; rfl
    simpa using this
  | succ j => simp at hj
/-- An argument, opened. -/
theorem Opens.arg {τ : Type} {t : Nat} {r : Rp τ} {ok : τ → Prop} (ho : Opens P t r ok) {H : Type} {enc : TypeId × Value → H} {base : Nat} {sp : Nat → Bool} {held : Bool} {v : Value} {d : DataW H} {ps : List MemPlace} (h : DataW.Trod enc P w base sp held t v d ps) :
    ∃ y, r.rep (All w) w v.cells.toList y ∧ ok y := by
  obtain ⟨fuel, hf⟩ := h
  exact ho enc w base sp held fuel _ _ hf
end Go.SX
namespace Go.SX
open Go Go.RowKit
variable {P : Program} {w : World}
/-- A law's call, out of its contract. -/
theorem Ret.law {f : Nat} {args : List Value} (h : Ret P f args w fun v wz => ∀ X : Value → World → Prop, (∀ (I' : Nat → Prop) (w' : World), St w (fun _ => False) I' [] w' → Kp (All w) w I' w' → X (.bool true) w') → X v wz) :
    Calls P f args.toArray w fun e W' => e = .returned (.bool true) ∧ Below w.heap.size w W' :=
  Calls.mono h fun e W' ⟨v, he, hv⟩ => by
    subst he
    exact hv (fun v w' => Ending.returned v = .returned (.bool true) ∧ Below w.heap.size w w') (fun I' w' s _ => ⟨rfl, s.only.below⟩)
end Go.SX
namespace Go.SX
open Go
theorem laidH (P : Program) (laid : List (String × DataW Unit)) (w : World) (h : (laid.all fun x => x.2.handleName?.isNone) = true) : laidMetH P laid w ↔ laidMet P laid w := by
  have hf : laid.filter (fun x => x.2.handleName?.isSome) = [] := by
    rw [List.filter_eq_nil_iff]
    intro x hx hs
    have := List.all_eq_true.1 h x hx
    cases hq : x.2.handleName? <;> simp_all
  unfold laidMetH
  rw [hf]
end Go.SX
