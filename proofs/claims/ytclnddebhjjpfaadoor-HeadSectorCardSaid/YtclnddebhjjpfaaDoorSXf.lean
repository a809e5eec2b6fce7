/- SX, part f: what is known of memory: blocks of one's own (St), and values that are only read (RO). -/
import Derived.Test.YtclnddebhjjpfaaDoorSXe
namespace Go.SX
open Go Go.RowKit

/-- w' is w but for new blocks and for blocks of M. -/
structure Only (M : Nat → Prop) (w w' : World) : Prop where
  os : w'.os = w.os
  tape : w'.tape = w.tape
  output : w'.output = w.output
  size : w.heap.size ≤ w'.heap.size
  block : ∀ k, k < w.heap.size → ¬ M k → w'.heap[k]? = w.heap[k]?
abbrev M0 : Nat → Prop := fun _ => False
theorem Only.refl (M : Nat → Prop) (w : World) : Only M w w := ⟨rfl, rfl, rfl, Nat.le_refl _, fun _ _ _ => rfl⟩
theorem Only.below {w w' : World} (h : Only M0 w w') : Below w.heap.size w w' := ⟨h.os, h.tape, h.output, h.size, fun k hk => h.block k hk id⟩
theorem Only.of_below {w w' : World} {M : Nat → Prop} (h : Below w.heap.size w w') : Only M w w' := ⟨h.os, h.tape, h.output, h.size, fun k hk _ => h.block k hk⟩
theorem Only.trans {M N : Nat → Prop} {w w1 w2 : World} (h : Only M w w1) (k : Only N w1 w2) (hN : ∀ b, N b → w.heap.size ≤ b ∨ M b) : Only M w w2 :=
  ⟨k.os.trans h.os, k.tape.trans h.tape, k.output.trans h.output, Nat.le_trans h.size k.size, fun b hb hM => by
    rw [k.block b (Nat.lt_of_lt_of_le hb h.size) (fun hn => (hN b hn).elim (fun h1 => by omega) hM), h.block b hb hM]⟩
theorem Only.mono {M N : Nat → Prop} {w w' : World} (h : Only M w w') (hMN : ∀ b, b < w.heap.size → M b → N b) : Only N w w' := ⟨h.os, h.tape, h.output, h.size, fun k hk hn => h.block k hk fun hm => hn (hMN k hk hm)⟩

/-- What may be read stays, and may still be read. -/
def Kp (I : Nat → Prop) (w : World) (I' : Nat → Prop) (w' : World) : Prop := ∀ b, I b → I' b ∧ w'.heap[b]? = w.heap[b]?
theorem Kp.refl {I : Nat → Prop} {w : World} : Kp I w I w := fun _ h => ⟨h, rfl⟩
theorem Kp.trans {I I' I'' : Nat → Prop} {w w' w'' : World} (h : Kp I w I' w') (k : Kp I' w' I'' w'') : Kp I w I'' w'' := fun b hb => ⟨(k b (h b hb).1).1, (k b (h b hb).1).2.trans (h b hb).2⟩
theorem Kp.cell {I I' : Nat → Prop} {w w' : World} (h : Kp I w I' w') {a : Addr} (hb : I a.block) {v : Value} (hc : w.cell? a = some v) : w'.cell? a = some v := by
  rw [World.cell?_of_block (h a.block hb).2]; exact hc

structure Rp (τ : Type) where
  n : Nat
  rep : (Nat → Prop) → World → List Value → τ → Prop
  len : ∀ {I w cs x}, rep I w cs x → cs.length = n
  st : ∀ {I w I' w' cs x}, Kp I w I' w' → rep I w cs x → rep I' w' cs x
def Rp.int (k : IntKind) : Rp Int := ⟨1, fun _ _ cs x => cs = [.int k x], by rintro I w cs x rfl; rfl, fun _ h => h⟩
def Rp.bool : Rp Bool := ⟨1, fun _ _ cs x => cs = [.bool x], by rintro I w cs x rfl; rfl, fun _ h => h⟩
def Rp.str : Rp ByteArray := ⟨1, fun _ _ cs x => cs = [.string x], by rintro I w cs x rfl; rfl, fun _ h => h⟩
def Rp.pair {σ τ : Type} (r : Rp σ) (s : Rp τ) : Rp (σ × τ) :=
  ⟨r.n + s.n, fun I w cs x => ∃ c d, cs = c ++ d ∧ r.rep I w c x.1 ∧ s.rep I w d x.2,
   by rintro I w cs x ⟨c, d, rfl, h1, h2⟩; rw [List.length_append, r.len h1, s.len h2],
   by rintro I w I' w' cs x hk ⟨c, d, rfl, h1, h2⟩; exact ⟨c, d, rfl, r.st hk h1, s.st hk h2⟩⟩
def Rp.iso {σ τ : Type} (f : σ → τ) (r : Rp τ) : Rp σ := ⟨r.n, fun I w cs x => r.rep I w cs (f x), fun h => r.len h, fun hk h => r.st hk h⟩
/-- Cells at a place. -/
def At (w : World) (b off : Nat) (cs : List Value) : Prop := ∀ j v, cs[j]? = some v → w.cell? ⟨b, off + j, none⟩ = some v
def Elems {τ : Type} (r : Rp τ) (I : Nat → Prop) (w : World) (A : Option Addr) (xs : List τ) : Prop :=
  xs ≠ [] → ∃ b o, A = some ⟨b, o, none⟩ ∧ I b ∧ ∀ i x, xs[i]? = some x → ∃ cs, r.rep I w cs x ∧ At w b (o + i * r.n) cs
theorem At.st {I I' : Nat → Prop} {w w' : World} {b off : Nat} {cs : List Value} (hk : Kp I w I' w') (hb : I b) (h : At w b off cs) : At w' b off cs :=
  fun j v hv => hk.cell hb (h j v hv)
theorem Elems.st {τ : Type} {r : Rp τ} {I I' : Nat → Prop} {w w' : World} {A : Option Addr} {xs : List τ} (hk : Kp I w I' w') (h : Elems r I w A xs) : Elems r I' w' A xs := fun hne => by
  obtain ⟨b, o, hA, hb, hc⟩ := h hne
  refine ⟨b, o, hA, (hk _ hb).1, fun i x hx => ?_⟩
  obtain ⟨cs, h1, h2⟩ := hc i x hx
  exact ⟨cs, r.st hk h1, h2.st hk hb⟩
/-- A slice that is only read: its elements. -/
def Rp.slice {τ : Type} (r : Rp τ) : Rp (List τ) :=
  ⟨1, fun I w cs xs => ∃ A c, cs = [.slice A xs.length c] ∧ xs.length ≤ c ∧ c ≤ 9223372036854775807 ∧ Elems r I w A xs,
   by rintro I w cs xs ⟨A, c, rfl, _⟩; rfl, by rintro I w I' w' cs xs hk ⟨A, c, rfl, h1, h2, h3⟩; exact ⟨A, c, rfl, h1, h2, h3.st hk⟩⟩

/-- A value that is only read. -/
def RO {τ : Type} (r : Rp τ) (I : Nat → Prop) (w : World) (v : Value) (x : τ) : Prop := r.rep I w [v] x
theorem RO.st {τ : Type} {r : Rp τ} {I I' : Nat → Prop} {w w' : World} {v : Value} {x : τ} (h : RO r I w v x) (hk : Kp I w I' w') : RO r I' w' v x := r.st hk h

/-- What one may own: a block; a slice with its cells. -/
inductive It where
  | blk (b : Nat) (o : Obj)
  | sl (v : Value) (e size n : Nat) (xs : List Value)
def It.foot : It → Option Nat
  | .blk b _ => some b
  | .sl v _ _ _ _ => v.ownBlock
def It.holds (w : World) : It → Prop
  | .blk b o => w.heap[b]? = some o
  | .sl v e size n xs => w.ownsRow 0 e size v n xs
theorem lt_of_here {w : World} {b : Nat} {o : Obj} (h : w.heap[b]? = some o) : b < w.heap.size := (Array.getElem?_eq_some_iff.1 h).1
theorem It.ltF {w : World} {p : It} {b : Nat} (h : p.holds w) (hf : p.foot = some b) : b < w.heap.size := by
  cases p with
  | blk c o => simp only [It.foot, Option.some.injEq] at hf; subst hf; exact lt_of_here h
  | sl v e size n xs =>
    rcases h.2 with ⟨rfl, _⟩ | ⟨g, cap, cur, rfl, _, hg, _⟩
    · simp [It.foot, Value.ownBlock] at hf
    · simp only [It.foot, Value.ownBlock, Option.some.injEq] at hf; subst hf; exact lt_of_here hg
theorem It.sameF {w w1 : World} {p : It} (h : p.holds w) (hb : ∀ b, p.foot = some b → w1.heap[b]? = w.heap[b]?) : p.holds w1 := by
  cases p with
  | blk c o => exact (hb c rfl).trans h
  | sl v e size n xs =>
    refine ⟨h.1, ?_⟩
    rcases h.2 with h1 | ⟨g, cap, cur, rfl, h0, hg, hr⟩
    · exact .inl h1
    · exact .inr ⟨g, cap, cur, rfl, h0, (hb g rfl).trans hg, hr⟩
def It.dis (p q : It) : Prop := ∀ b, p.foot = some b → q.foot = some b → False

/-- What is at hand: w came from w0, blocks of M and new ones alone having been written; L: what is one's own; I: what may be read. -/
structure St (w0 : World) (M I : Nat → Prop) (L : List It) (w : World) : Prop where
  only : Only M w0 w
  pair : L.Pairwise It.dis
  here : ∀ p ∈ L, p.holds w
  mine : ∀ p ∈ L, ∀ b, p.foot = some b → w0.heap.size ≤ b ∨ M b
  apart : ∀ p ∈ L, ∀ b, p.foot = some b → ¬ I b
  inn : ∀ b, I b → b < w.heap.size
variable {w0 w w' : World} {M I I' : Nat → Prop} {L : List It}
theorem St.start (hI : ∀ b, I b → b < w.heap.size) : St w M I [] w := ⟨Only.refl _ _, by simp, by simp, by simp, by simp, hI⟩
theorem St.at (s : St w0 M I L w) {i : Nat} {p : It} (h : L[i]? = some p) : p.holds w := s.here _ (List.mem_of_getElem? h)
/-- A cell of one's own. -/
theorem St.cell (s : St w0 M I L w) {i b off : Nat} {cs : List Value} {e : Nat} {fr : Nat × Nat} {v : Value} (h : L[i]? = some (.blk b (.cells cs.toArray e fr))) (hv : cs[off]? = some v) :
    w.cell? ⟨b, off, none⟩ = some v := by
  have h1 : w.heap[b]? = _ := s.at h
  simp [World.cell?, h1, hv]
theorem size_of_keep {w w1 : World} (hk : ∀ b, b < w.heap.size → w1.heap[b]? = w.heap[b]?) : w.heap.size ≤ w1.heap.size := by
  rcases Nat.lt_or_ge w1.heap.size w.heap.size with h | h
  · have h1 := hk w1.heap.size h
    rw [Array.getElem?_eq_none (Nat.le_refl _)] at h1
    simp [Array.getElem?_eq_getElem h] at h1
  · exact h
theorem St.keep (s : St w0 M I L w) {w1 : World} (hk : ∀ b, b < w.heap.size → w1.heap[b]? = w.heap[b]?) (ho : Only M w0 w1) : St w0 M I L w1 :=
  ⟨ho, s.pair, fun p hp => It.sameF (s.here p hp) fun _ hb => hk _ (It.ltF (s.here p hp) hb), s.mine, s.apart, fun b hb => Nat.lt_of_lt_of_le (s.inn b hb) (size_of_keep hk)⟩
theorem below_only {w1 : World} (h : Below w.heap.size w w1) (ho : Only M w0 w) : Only M w0 w1 := ho.trans (Only.of_below (M := M0) h) (fun _ hb => hb.elim)
/-- Behind what only made new blocks. -/
theorem St.grow (s : St w0 M I L w) {w1 : World} (h : Below w.heap.size w w1) : St w0 M I L w1 := s.keep h.block (below_only h s.only)
theorem Kp.grow (s : St w0 M I L w) {w1 : World} (h : Below w.heap.size w w1) : Kp I w I w1 := fun b hb => ⟨hb, h.block b (s.inn b hb)⟩
/-- What may be read, and what has been made since. -/
def New (w w' : World) (I : Nat → Prop) : Nat → Prop := fun b => I b ∨ (w.heap.size ≤ b ∧ b < w'.heap.size)
theorem St.call (s : St w0 M I L w) {w1 : World} (h : Only M0 w w1) : St w0 M (New w w1 I) L w1 := by
  have s1 := s.grow h.below
  refine ⟨s1.only, s1.pair, s1.here, s1.mine, fun p hp b hb => ?_, fun b hb => ?_⟩
  · rintro (h1 | h1)
    · exact s.apart p hp b hb h1
    · have := It.ltF (s.here p hp) hb; omega
  · rcases hb with h1 | h1
    · exact s1.inn b h1
    · exact h1.2
theorem Kp.call (s : St w0 M I L w) {w1 : World} (h : Only M0 w w1) : Kp I w (New w w1 I) w1 := fun b hb => ⟨.inl hb, h.block b (s.inn b hb) id⟩
theorem Kp.dr (s : St w0 M I L w) {w1 : World} (h : Dr w w1) : Kp I w I w1 := Kp.grow s h.below
theorem St.dr (s : St w0 M I L w) {w1 : World} (h : Dr w w1) : St w0 M I L w1 := s.grow h.below
/-- One thing more of one's own, over new blocks. -/
theorem St.push (s : St w0 M I L w) {w1 : World} {p : It} (h : Below w.heap.size w w1) (hp : p.holds w1) (hn : ∀ b, p.foot = some b → w.heap.size ≤ b) : St w0 M I (p :: L) w1 := by
  have s1 := s.grow h
  refine ⟨s1.only, ?_, ?_, ?_, ?_, s1.inn⟩
  · refine List.pairwise_cons.2 ⟨fun q hq b hb hqb => ?_, s.pair⟩
    have := It.ltF (s.here q hq) hqb
    have := hn b hb
    omega
  · intro q hq
    rcases List.mem_cons.1 hq with rfl | hq
    · exact hp
    · exact s1.here q hq
  · intro q hq b hb
    rcases List.mem_cons.1 hq with rfl | hq
    · exact .inl (Nat.le_trans s.only.size (hn b hb))
    · exact s.mine q hq b hb
  · intro q hq b hb
    rcases List.mem_cons.1 hq with rfl | hq
    · intro hI; have := s.inn _ hI; have := hn b hb; omega
    · exact s.apart q hq b hb
theorem below_alloc (w : World) (o : Obj) : Below w.heap.size w (w.alloc o) := (Below.refl _ w).alloc (Nat.le_refl _) o
theorem St.alloc (s : St w0 M I L w) (o : Obj) : St w0 M I (.blk w.heap.size o :: L) (w.alloc o) :=
  s.push (below_alloc w o) (World.alloc_heap_new w o) (fun b hb => by simp only [It.foot, Option.some.injEq] at hb; omega)
theorem Kp.alloc (s : St w0 M I L w) (o : Obj) : Kp I w I (w.alloc o) := Kp.grow s (below_alloc w o)
theorem dis_at (s : St w0 M I L w) {i j : Nat} {p q : It} (hi : L[i]? = some p) (hj : L[j]? = some q) (hne : i ≠ j) : It.dis p q := by
  obtain ⟨hi1, rfl⟩ := List.getElem?_eq_some_iff.1 hi
  obtain ⟨hj1, rfl⟩ := List.getElem?_eq_some_iff.1 hj
  have := List.pairwise_iff_getElem.1 s.pair
  rcases Nat.lt_or_gt_of_ne hne with h | h
  · exact this i j hi1 hj1 h
  · intro b hb hb'; exact this j i hj1 hi1 h b hb' hb
theorem mem_erase {i : Nat} {q : It} (h : q ∈ L.eraseIdx i) : ∃ j, j ≠ i ∧ L[j]? = some q := by
  obtain ⟨j, hji, hj⟩ := List.mem_eraseIdx_iff_getElem?.1 h
  exact ⟨j, hji, hj⟩
theorem St.drop (s : St w0 M I L w) (i : Nat) : St w0 M I (L.eraseIdx i) w :=
  have hs : ∀ p ∈ L.eraseIdx i, p ∈ L := fun _ hp => List.mem_of_mem_eraseIdx hp
  ⟨s.only, s.pair.sublist (List.eraseIdx_sublist L i), fun p hp => s.here p (hs p hp), fun p hp => s.mine p (hs p hp), fun p hp => s.apart p (hs p hp), s.inn⟩
/-- What is one's own is given away to be read. -/
theorem St.shut (s : St w0 M I L w) (i : Nat) {p : It} (h : L[i]? = some p) : St w0 M (fun k => I k ∨ p.foot = some k) (L.eraseIdx i) w := by
  have s1 := s.drop i
  refine ⟨s1.only, s1.pair, s1.here, s1.mine, fun q hq b hb => ?_, fun k hk => ?_⟩
  · rintro (h1 | h1)
    · exact s1.apart q hq b hb h1
    · obtain ⟨j, hji, hj⟩ := mem_erase hq
      exact dis_at s hj h hji b hb h1
  · rcases hk with h1 | h1
    · exact s.inn k h1
    · exact It.ltF (s.at h) h1
theorem Kp.shut {p : It} : Kp I w (fun k => I k ∨ p.foot = some k) w := fun _ h => ⟨.inl h, rfl⟩
/-- What is one's own has been written, or laid anew. -/
theorem St.turn (s : St w0 M I L w) {i : Nat} {p p' : It} {w1 : World} (h : L[i]? = some p) (hw : w.grownBy w1 p.foot) (hself : p'.holds w1) (hf : ∀ c, p'.foot = some c → p.foot = some c ∨ w.heap.size ≤ c) : St w0 M I (L.set i p') w1 := by
  have hoth : ∀ b, b < w.heap.size → p.foot ≠ some b → w1.heap[b]? = w.heap[b]? := fun b hb hne => hw.block b hb fun he => hne he.symm
  have hmem : ∀ q ∈ L.set i p', q = p' ∨ (∃ j, j ≠ i ∧ L[j]? = some q) := by
    intro q hq
    obtain ⟨j, hj⟩ := List.mem_iff_getElem?.1 hq
    by_cases hji : j = i
    · subst hji
      rw [List.getElem?_set_self (List.getElem?_eq_some_iff.1 h).1] at hj
      exact .inl (by simpa using hj.symm)
    · rw [List.getElem?_set_ne (Ne.symm hji)] at hj
      exact .inr ⟨j, hji, hj⟩
  have hdis : ∀ j q, j ≠ i → L[j]? = some q → It.dis p' q := by
    intro j q hji hj c hc hc'
    rcases hf c hc with h1 | h1
    · exact dis_at s h hj (Ne.symm hji) c h1 hc'
    · have := It.ltF (s.at hj) hc'; omega
  have honly : Only M w0 w1 := by
    have h1 : Only (fun k => p.foot = some k) w w1 := ⟨hw.os, hw.tape, hw.output, hw.size, fun k hk hne => hoth k hk hne⟩
    exact s.only.trans h1 (fun k hk => s.mine _ (List.mem_of_getElem? h) k hk)
  refine ⟨honly, ?_, ?_, ?_, ?_, fun k hk => Nat.lt_of_lt_of_le (s.inn k hk) hw.size⟩
  · rw [List.pairwise_iff_getElem]
    intro j k hj hk hjk
    have hj' : j < L.length := by simpa using hj
    have hk' : k < L.length := by simpa using hk
    rw [List.getElem_set, List.getElem_set]
    split
    · rename_i hij
      split
      · omega
      · exact hdis k _ (by omega) (List.getElem?_eq_getElem hk')
    · rename_i hij
      split
      · exact fun c hc hc' => hdis j _ (by omega) (List.getElem?_eq_getElem hj') c hc' hc
      · exact List.pairwise_iff_getElem.1 s.pair j k hj' hk' hjk
  · intro q hq
    rcases hmem q hq with rfl | ⟨j, hji, hj⟩
    · exact hself
    · exact It.sameF (s.at hj) fun c hc => hoth c (It.ltF (s.at hj) hc) fun he => dis_at s hj h hji c hc he
  · intro q hq c hc
    rcases hmem q hq with rfl | ⟨j, hji, hj⟩
    · rcases hf c hc with h1 | h1
      · exact s.mine _ (List.mem_of_getElem? h) c h1
      · exact .inl (Nat.le_trans s.only.size h1)
    · exact s.mine q (List.mem_of_getElem? hj) c hc
  · intro q hq c hc
    rcases hmem q hq with rfl | ⟨j, hji, hj⟩
    · rcases hf c hc with h1 | h1
      · exact s.apart _ (List.mem_of_getElem? h) c h1
      · intro hI; have := s.inn c hI; omega
    · exact s.apart q (List.mem_of_getElem? hj) c hc
theorem Kp.turn (s : St w0 M I L w) {i : Nat} {p : It} {w1 : World} (h : L[i]? = some p) (hw : w.grownBy w1 p.foot) : Kp I w I w1 := fun k hk => ⟨hk, hw.block k (s.inn k hk) (fun he => s.apart _ (List.mem_of_getElem? h) k he.symm hk)⟩
end Go.SX
