/- SX, part q: parts of slices of one's own; arrays; copy. -/
import Derived.Test.YtclnddebhjjpfaaDoorSXp
namespace Go.SX
open Go Go.RowKit
variable {rd : Option Nat} {P : Program} {T : Tb} {E : List Value} {ds : List Deferred} {w w0 w1 : World} {M I : Nat → Prop} {L : List It}

/-- What is known of a part: it begins at o, has n elements and room for c. -/
structure Pt (o n c size : Nat) (l h : Int) (m : Nat) : Prop where
  len : (n : Int) = h - l
  cap : n ≤ c
  off : n ≠ 0 → o = l.toNat * size
  lo : 0 ≤ l
  le : l ≤ h
  hi : h ≤ (m : Int)
theorem partS {b o c m0 size N C : Nat} {l h : Int} {l0 h0 : Int} (p : Pt o N C size l0 h0 m0) (hC : C ≤ c) (g : 0 ≤ l ∧ l ≤ h ∧ h ≤ h0 - l0) :
    ∃ o' n' c', cutA (some ⟨b, o, none⟩) l.toNat C size = some ⟨b, o', none⟩ ∧ h.toNat - l.toNat = n' ∧ C - l.toNat = c' ∧ c' ≤ c ∧ (0 ≤ l ∧ l ≤ h ∧ h ≤ (N : Int) ∧ N ≤ C) ∧ Pt o' n' c' size (l0 + l) (l0 + h) m0 := by
  obtain ⟨g1, g2, g3⟩ := g
  have q1 := p.len
  have q2 := p.cap
  have q4 := p.lo
  have q5 := p.hi
  unfold cutA
  by_cases he : C = l.toNat
  · rw [if_pos he]
    refine ⟨o, _, _, rfl, rfl, rfl, by omega, ⟨g1, g2, by omega, q2⟩, by omega, by omega, fun hn => by omega, by omega, by omega, by omega⟩
  · rw [if_neg he]
    refine ⟨o + l.toNat * size, _, _, rfl, rfl, rfl, by omega, ⟨g1, g2, by omega, q2⟩, by omega, by omega, fun hn => ?_, by omega, by omega, by omega⟩
    have := p.off (by omega)
    rw [this, ← Nat.add_mul]
    congr 1
    omega
theorem Pt.whole {n c size : Nat} (h : n ≤ c) : Pt 0 n c size 0 n n := ⟨by omega, h, fun _ => by simp, by omega, by omega, by omega⟩
theorem Pt.idx {o n c size m : Nat} {l h i : Int} {b : Nat} (p : Pt o n c size l h m) (g : 0 ≤ i ∧ i < h - l) : (0 ≤ i ∧ i < (n : Int)) ∧ Value.pointer (some ⟨b, o + i.toNat * size, none⟩) = .pointer (some ⟨b, 0 + (l + i).toNat * size, none⟩) := by
  have q1 := p.len
  have q4 := p.lo
  refine ⟨by omega, ?_⟩
  rw [p.off (by omega), ← Nat.add_mul, Nat.zero_add]
  congr 5
  omega
theorem Pt.len_v {o n c size m : Nat} {l h : Int} (p : Pt o n c size l h m) : Value.int .i64 (n : Int) = .int .i64 (h - l) := by rw [p.len]
section
variable {τ : Type} {r : Rp τ} {xs ys : List τ} {cl : List Value}
/-- A part of a slice of one's own, lent. -/
theorem St.lendPt (s : St w0 M I L w) {i b c e size n : Nat} {o m d : Nat} {l h : Int} (hL : L[i]? = some (.sl (.slice (some ⟨b, 0, none⟩) n c) e size n cl)) (hs : size = r.n) (rp : RepL r I w cl xs) (p : Pt o m d size l h n) (hd : d ≤ c) (g : cutI xs l h = some ys) :
    m = ys.length ∧ (ys.length ≤ d ∧ d ≤ 9223372036854775807) ∧ Elems r (fun k => I k ∨ (It.sl (.slice (some ⟨b, 0, none⟩) n c) e size n cl).foot = some k) w (some ⟨b, o, none⟩) ys := by
  obtain ⟨⟨g1, g2, g3⟩, g4, g5⟩ := cutS g
  have hh := s.at hL
  have hcap := row_hc hh
  have q1 := p.len
  have q2 := p.cap
  have hm : m = ys.length := by omega
  refine ⟨hm, ⟨by omega, by omega⟩, fun hne => ?_⟩
  have hpos : ys.length ≠ 0 := fun h0 => hne (List.eq_nil_of_length_eq_zero h0)
  refine ⟨b, o, rfl, .inr rfl, fun j x hx => ?_⟩
  have hx' : xs[l.toNat + j]? = some x := by
    rw [g4, List.getElem?_take] at hx
    split at hx
    · simpa using hx
    · cases hx
  obtain ⟨cs, h1, h2⟩ := rp.get hx'
  refine ⟨cs, r.st Kp.shut h1, fun k v hv => ?_⟩
  have := row_cell hh _ _ (h2 k v hv)
  rw [p.off (by omega), hs]
  rw [show l.toNat * r.n + j * r.n + k = 0 + ((l.toNat + j) * r.n + k) by rw [Nat.add_mul]; omega]
  exact this
/-- A part of a slice of one's own, read as cells. -/
theorem St.srcPt (s : St w0 M I L w) {i b c e size n : Nat} {o m d : Nat} {l h : Int} (hL : L[i]? = some (.sl (.slice (some ⟨b, 0, none⟩) n c) e size n cl)) (hs : size = r.n) (rp : RepL r I w cl xs) (p : Pt o m d size l h n) (hd : d ≤ c) (g : cutI xs l h = some ys) :
    ∃ news, Src w (some ⟨b, o, none⟩) news ∧ RepL r (fun k => I k ∨ (It.sl (.slice (some ⟨b, 0, none⟩) n c) e size n cl).foot = some k) w news ys := (St.lendPt s hL hs rp p hd g).2.2.src
theorem row_set (s : St w0 M I L w) {i b n c e size off : Nat} {vs : List Value} (hL : L[i]? = some (.sl (.slice (some ⟨b, 0, none⟩) n c) e size n cl)) (hl : off + vs.length ≤ cl.length) :
    ∃ cur : List Value, w.heap[b]? = some (.cells cur.toArray e (0, 0)) ∧ off + vs.length ≤ cur.length ∧ St w0 M I (L.set i (.sl (.slice (some ⟨b, 0, none⟩) n c) e size n (setL cl off vs))) (w.setRow b (setL cur off vs).toArray) ∧ Kp I w I (w.setRow b (setL cur off vs).toArray) := by
  have hh := s.at hL
  obtain ⟨q1, h2 | ⟨g, cap, cur, h3, q2, q3, q4, q5, q6, q7⟩⟩ := hh
  · simp at h2
  · cases h3
    have hcl0 : cl.length ≤ cur.toList.length := by rw [← q7]; simp; omega
    have hlen := setL_length vs cl off
    have hpre : ∀ (vs : List Value) (off k : Nat) (cs : List Value), off + vs.length ≤ k → (setL cs off vs).take k = setL (cs.take k) off vs := by
      intro vs
      induction vs with
      | nil => intro off k cs _; rfl
      | cons v vs ih =>
        intro off k cs hk
        simp only [List.length_cons] at hk
        simp only [setL]
        rw [ih _ _ _ (by omega), List.take_set]
    refine ⟨cur.toList, by simpa using q3, by omega, ?_, ?_⟩
    · refine s.turn hL (grownBy_setRow (g := b)) ⟨by rw [hlen, q1], .inr ⟨b, c, (setL cur.toList off vs).toArray, rfl, q2, ?_, q4, q5, ?_, ?_⟩⟩ (fun _ hc => .inl hc)
      · exact setRow_heap w b cur _ e (0, 0) q3
      · simp [setL_length, q6]
      · rw [show (setL cur.toList off vs).toArray.toList = setL cur.toList off vs from rfl, hpre _ _ _ _ (by omega), q7]
    · exact Kp.turn s hL (grownBy_setRow (g := b))
/-- What copy leaves. -/
def copyI {τ : Type} (xs : List τ) (l h : Int) (ys : List τ) : List τ := xs.take l.toNat ++ ys.take (h - l).toNat ++ xs.drop (l.toNat + min (h - l).toNat ys.length)
theorem copyI_length {l h : Int} (hl : 0 ≤ l ∧ l ≤ h ∧ h ≤ (xs.length : Int)) : (copyI xs l h ys).length = xs.length := by
  unfold copyI
  simp only [List.length_append, List.length_take, List.length_drop]
  omega
theorem repl_copy {news : List Value} (h1 : r.n = 1) (rp : RepL r I w cl xs) (rq : RepL r I w news ys) {l h : Int} (hl : 0 ≤ l ∧ l ≤ h ∧ h ≤ (xs.length : Int)) :
    RepL r I w (setL cl l.toNat (news.take (h - l).toNat)) (copyI xs l h ys) := by
  have hc := rp.length
  have hn := rq.length
  rw [h1, Nat.mul_one] at hc hn
  have take : ∀ {cs : List Value} {zs : List τ} (k : Nat), RepL r I w cs zs → RepL r I w (cs.take k) (zs.take k) := by
    intro cs zs
    induction zs generalizing cs with
    | nil => intro k h; have : cs = [] := h; subst this; simp; rfl
    | cons z zs ih =>
      rintro k ⟨c, d, rfl, h2, h3⟩
      have := r.len h2
      rw [h1] at this
      obtain ⟨v, rfl⟩ := List.length_eq_one_iff.1 this
      cases k with
      | zero => rfl
      | succ k => exact ⟨[v], d.take k, by simp, h2, ih k h3⟩
  have drop : ∀ {cs : List Value} {zs : List τ} (k : Nat), RepL r I w cs zs → RepL r I w (cs.drop k) (zs.drop k) := by
    intro cs zs
    induction zs generalizing cs with
    | nil => intro k h; have : cs = [] := h; subst this; simp; rfl
    | cons z zs ih =>
      rintro k ⟨c, d, rfl, h2, h3⟩
      have := r.len h2
      rw [h1] at this
      obtain ⟨v, rfl⟩ := List.length_eq_one_iff.1 this
      cases k with
      | zero => exact ⟨[v], d, rfl, h2, h3⟩
      | succ k => exact ih k h3
  have e := setL_eq (news.take (h - l).toNat) cl l.toNat (by rw [List.length_take]; omega)
  rw [← e]
  unfold copyI
  refine ((take _ rp).app (take _ rq)).app ?_
  rw [List.length_take, hn]
  exact drop _ rp
end
def copyV2 (E : List Value) : Op → Option (Nat × Nat × Nat × Option Addr × Nat × Nat × Nat)
  | .call ⟨.builtin .copy, ⟨[d, x]⟩, ⟨[t, t']⟩⟩ => match ev E d, ev E x with
    | .slice (some ⟨b, off, none⟩) dl _, .slice A sl _ => some (b, off, dl, A, sl, t, t')
    | _, _ => none
  | _ => none
theorem OK.copy (hT : Tb.ok P T) {K : Act → World → Prop} {o : Oper} {τ : Type} {r : Rp τ} {xs ys : List τ} {cl news : List Value} {i b c e size n of m d t t' et sl : Nat} {l h : Int} {A : Option Addr} (s : St w0 M I L w) (hv : copyV2 E o.op = some (b, of, m, A, sl, t, t'))
    (htk : (T t).known = true) (ht : (T t).td = .slice et) (hek : (T et).known = true) (hes : (T et).size = 1) (hr : r.n = 1) (hf : r.Flat)
    (hL : L[i]? = some (.sl (.slice (some ⟨b, 0, none⟩) n c) e size n cl)) (hs : size = 1) (hn : n = xs.length) (rp : RepL r I w cl xs) (p : Pt of m d size l h n) (hsl : sl = ys.length) (hsrc : Src w A news) (rq : RepL r I w news ys)
    (hk : ∀ w1 cl', St w0 M I (L.set i (.sl (.slice (some ⟨b, 0, none⟩) n c) e size n cl')) w1 → Kp I w I w1 → RepL r I w1 cl' (copyI xs l h ys) → n = (copyI xs l h ys).length →
      K (ac (putE E o.dst (.int .i64 (if (ys.length : Int) < h - l then (ys.length : Int) else h - l))) ds) w1) : opK rd P o K (ac E ds) w := by
  have q1 := p.len
  have q4 := p.lo
  have q5 := p.le
  have q6 := p.hi
  subst hsl
  subst hs
  have hcl := rp.length
  have hnw := rq.length
  rw [hr, Nat.mul_one] at hcl hnw
  have hm : m = (h - l).toNat := by omega
  by_cases h0 : m = 0
  · -- nothing is copied
    have hc1 : copyI xs l h ys = xs := by
      unfold copyI
      rw [show (h - l).toNat = 0 by omega]
      simp
    have hrun : (execOp (ev E) o).run P w = .ok (.value (.int .i64 (if (ys.length : Int) < h - l then (ys.length : Int) else h - l))) w ∧ ∀ c, o.op ≠ .defer c := by
      obtain ⟨dst, op, type, pos, after, guard⟩ := o
      simp only at hv ⊢
      unfold copyV2 at hv
      split at hv
      · rename_i d1 x1 t1 t2
        split at hv
        · rename_i b' off' dl' dc A' sl' sc hd hx
          cases hv
          refine ⟨?_, by simp⟩
          have h2 := (hT _ htk).td; rw [ht] at h2
          simp only [TD.ok] at h2
          have hinfo := (hT _ hek).info
          obtain ⟨inf, hi1, hi2⟩ := Option.map_eq_some_iff.1 hinfo
          simp only [Prod.mk.injEq] at hi2
          have hif : (if (ys.length : Int) < h - l then (ys.length : Int) else h - l) = 0 := by split <;> omega
          rw [hif]
          subst h0
          have hx0 : (Builtin.copy_ #[t, t'] type #[ev E d1, ev E x1]).run P w = .ok (.int .i64 0) w := by
            rw [hd, hx]
            cases A <;> simp [Builtin.copy_, run_underlying h2, Builtin.lenOf, sizeOf, typeInfo, hi1, Builtin.firstCells, storeCells, goInt, loadCells, loadCellsFrom, Result.andThen]
          simp [execOp, resolve, invoke, builtin, hx0, Result.andThen]
        · cases hv
      · cases hv
    refine opK_eff hrun.2 hrun.1 (hk w cl ?_ Kp.refl (by rw [hc1]; exact rp) (by rw [hc1]; exact hn))
    have : L.set i (.sl (.slice (some ⟨b, 0, none⟩) n c) e 1 n cl) = L := by
      apply List.ext_getElem?
      intro j
      by_cases hji : i = j
      · subst hji
        rw [List.getElem?_set_self (List.getElem?_eq_some_iff.1 hL).1, hL]
      · rw [List.getElem?_set_ne hji]
    rw [this]
    exact s
  · have hoff : of = l.toNat := by rw [p.off h0, Nat.mul_one]
    subst hoff
    have hl2 : (news.take (h - l).toNat).length = min ys.length m := by rw [List.length_take, hnw, hm, Nat.min_comm]
    obtain ⟨cur, c1, c2, c3, c4⟩ := row_set (off := l.toNat) (vs := news.take (h - l).toNat) s hL (by rw [hl2]; omega)
    have hsrc2 : Src w A (news.take (h - l).toNat) := by
      rcases hsrc with ⟨rfl, rfl⟩ | ⟨a, rfl, hc⟩
      · exact .inl ⟨rfl, by simp⟩
      · refine .inr ⟨a, rfl, fun j v hj => hc j v ?_⟩
        rw [List.getElem?_take] at hj
        split at hj
        · exact hj
        · cases hj
    have hv1 : copyV E o.op = some (b, l.toNat, m, A, ys.length, t) := by
      obtain ⟨dst, op, type, pos, after, guard⟩ := o
      simp only at hv ⊢
      unfold copyV2 at hv
      split at hv
      · split at hv
        · rename_i hd hx
          cases hv
          simp [copyV, hd, hx]
        · cases hv
      · cases hv
    have hflat : flatv (news.take (h - l).toNat) := fun v hv => rq.flat hf v (List.mem_of_mem_take hv)
    obtain ⟨r1, r2⟩ := copy_ok (P := P) (w := w) hT hv1 htk ht hek hes c1 hsrc2 hl2 hflat c2
    have e1 : (((news.take (h - l).toNat).length : Nat) : Int) = (if (ys.length : Int) < h - l then (ys.length : Int) else h - l) := by
      rw [hl2]; split <;> omega
    rw [e1] at r1
    have hcp : 0 ≤ l ∧ l ≤ h ∧ h ≤ (xs.length : Int) := ⟨q4, q5, by omega⟩
    exact opK_eff r2 r1 (hk _ _ c3 c4 ((repl_copy hr rp rq hcp).st c4) (by rw [copyI_length hcp]; exact hn))
/-- A store into a part. -/
theorem OK.storeAt (hT : Tb.ok P T) {K : Act → World → Prop} {o : Oper} {i b off m c e size n : Nat} {cl vs cl' : List Value} (s : St w0 M I L w) (h : storeV T E o.op = some (b, off, m, vs))
    (hL : L[i]? = some (.sl (.slice (some ⟨b, 0, none⟩) n c) e size n cl)) (hn : vs.length = m) (h1 : flatv vs) (hl : off + vs.length ≤ cl.length) (hcl : setL cl off vs = cl')
    (hk : ∀ w1, St w0 M I (L.set i (.sl (.slice (some ⟨b, 0, none⟩) n c) e size n cl')) w1 → Kp I w I w1 → K (ac (putE E o.dst undef) ds) w1) : opK rd P o K (ac E ds) w := by
  obtain ⟨cur, c1, c2, c3, c4⟩ := row_set s hL hl
  obtain ⟨r1, r2⟩ := store_ok (P := P) (w := w) (cs := cur) hT h hn h1 c1 c2
  rw [hcl] at c3
  exact opK_effS r2 r1 (hk _ c3 c4)
end Go.SX
