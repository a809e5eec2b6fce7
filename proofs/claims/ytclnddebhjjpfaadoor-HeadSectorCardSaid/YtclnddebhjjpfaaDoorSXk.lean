/- SX, part k: slices of one's own: lent, read, written; items put in order. -/
import Derived.Test.YtclnddebhjjpfaaDoorSXj
namespace Go.SX
open Go Go.RowKit
variable {w0 w w1 : World} {M I I1 : Nat → Prop} {L L1 : List It}

def pickL (is : List Nat) (n : Nat) (L : List It) : List It := is.filterMap (fun i => L[i]?) ++ L.drop n
theorem pick_mem {is : List Nat} {n : Nat} {p : It} (h : p ∈ pickL is n L) : p ∈ L := by
  rcases List.mem_append.1 h with h | h
  · obtain ⟨i, _, hi⟩ := List.mem_filterMap.1 h
    exact List.mem_of_getElem? hi
  · exact List.mem_of_mem_drop h
theorem St.pick (s : St w0 M I L w) (is : List Nat) (n : Nat) (h : (decide is.Nodup && is.all fun i => decide (i < n)) = true) : St w0 M I (pickL is n L) w := by
  simp only [Bool.and_eq_true, decide_eq_true_eq, List.all_eq_true] at h
  refine ⟨s.only, ?_, fun p hp => s.here p (pick_mem hp), fun p hp => s.mine p (pick_mem hp), fun p hp => s.apart p (pick_mem hp), s.inn⟩
  refine List.pairwise_append.2 ⟨?_, s.pair.sublist (List.drop_sublist n L), ?_⟩
  · rw [List.pairwise_filterMap]
    refine List.Pairwise.imp ?_ h.1
    intro i j hij p hp q hq
    exact dis_at s hp hq hij
  · intro p hp q hq
    obtain ⟨i, hi, hpi⟩ := List.mem_filterMap.1 hp
    obtain ⟨j, hj⟩ := List.mem_iff_getElem?.1 hq
    rw [List.getElem?_drop] at hj
    have := h.2 i hi
    exact dis_at s hpi hj (by omega)
theorem St.pushNil (s : St w0 M I L w) (e size : Nat) : St w0 M I (.sl (.slice none 0 0) e size 0 [] :: L) w := by
  refine ⟨s.only, List.pairwise_cons.2 ⟨fun q _ b hb => ?_, s.pair⟩, ?_, ?_, ?_, s.inn⟩
  · simp [It.foot, Value.ownBlock] at hb
  · intro p hp
    rcases List.mem_cons.1 hp with rfl | hp
    · exact ⟨by simp, .inl ⟨rfl, rfl⟩⟩
    · exact s.here p hp
  · intro p hp b hb
    rcases List.mem_cons.1 hp with rfl | hp
    · simp [It.foot, Value.ownBlock] at hb
    · exact s.mine p hp b hb
  · intro p hp b hb
    rcases List.mem_cons.1 hp with rfl | hp
    · simp [It.foot, Value.ownBlock] at hb
    · exact s.apart p hp b hb
/-- The same block, told otherwise. -/
theorem St.told (s : St w0 M I L w) {i : Nat} {p p' : It} (h : L[i]? = some p) (hf : p'.foot = p.foot) (hp : p.holds w → p'.holds w) : St w0 M I (L.set i p') w :=
  s.turn (w1 := w) h ⟨rfl, rfl, rfl, Nat.le_refl _, fun _ _ _ => rfl⟩ (hp (s.at h)) (fun c hc => .inl (by rw [← hf]; exact hc))
theorem blk_row {b n c e size : Nat} {cs : List Value} (hn : cs.length = c * size) (hc : n ≤ c) (hm : c ≤ 9223372036854775807) (h : (It.blk b (.cells cs.toArray e (0, 0))).holds w) : (It.sl (.slice (some ⟨b, 0, none⟩) n c) e size n (cs.take (n * size))).holds w :=
  ⟨by rw [List.length_take, hn]; exact Nat.min_eq_left (Nat.mul_le_mul_right _ hc), .inr ⟨b, c, cs.toArray, rfl, Nat.zero_le _, h, hc, by simpa [maxLen] using hm, by simpa using hn, by simp⟩⟩
theorem St.blkSl (s : St w0 M I L w) {i b n c e size : Nat} {cs : List Value} (h : L[i]? = some (.blk b (.cells cs.toArray e (0, 0)))) (hn : cs.length = c * size) (hc : n ≤ c) (hm : c ≤ 9223372036854775807) :
    St w0 M I (L.set i (.sl (.slice (some ⟨b, 0, none⟩) n c) e size n (cs.take (n * size)))) w := s.told h rfl (blk_row hn hc hm)
section
variable {τ : Type} {r : Rp τ} {xs : List τ} {cl : List Value} {A : Option Addr}
theorem RepL.all {cells : List Value} (h : RepL r I w cells xs) : ∀ i x, xs[i]? = some x → ∃ c, r.rep I w c x ∧ ∀ j v, c[j]? = some v → cells[i * r.n + j]? = some v := fun _ _ hx => h.get hx
theorem row_cell {b c e size n : Nat} (h : (It.sl (.slice (some ⟨b, 0, none⟩) n c) e size n cl).holds w) : At w b 0 cl := by
  obtain ⟨h1, h2 | ⟨g, cap, cur, h3, _, h4, _, _, h5, h6⟩⟩ := h
  · simp at h2
  · cases h3
    intro j v hj
    have hv : cur.toList[j]? = some v := by
      rw [← h6, List.getElem?_take] at hj
      split at hj
      · exact hj
      · cases hj
    simp only [Nat.zero_add, World.cell?, h4]
    simpa using hv
theorem row_addr {c e size n : Nat} (h : (It.sl (.slice A n c) e size n cl).holds w) (hn : n ≠ 0) : ∃ b, A = some ⟨b, 0, none⟩ := by
  obtain ⟨_, h2 | ⟨g, cap, cur, h3, _⟩⟩ := h
  · exact absurd h2.2 hn
  · cases h3; exact ⟨g, rfl⟩
theorem row_hc {c e size n : Nat} (h : (It.sl (.slice A n c) e size n cl).holds w) : n ≤ c ∧ c ≤ 9223372036854775807 := by
  obtain ⟨_, ⟨h2, h3⟩ | ⟨g, cap, cur, h3, _, h4, h5, h6, _⟩⟩ := h
  · cases h2; exact ⟨Nat.le_refl _, by omega⟩
  · cases h3; exact ⟨h5, by simpa [maxLen] using h6⟩
theorem St.lend (s : St w0 M I L w) {i c e size n : Nat} (h : L[i]? = some (.sl (.slice A n c) e size n cl)) (hn : n = xs.length) (rp : RepL r I w cl xs) :
    (xs.length ≤ c ∧ c ≤ 9223372036854775807) ∧ Elems r (fun k => I k ∨ (It.sl (.slice A n c) e size n cl).foot = some k) w A xs := by
  subst hn
  have hh := s.at h
  refine ⟨row_hc hh, fun hne => ?_⟩
  obtain ⟨b, rfl⟩ := row_addr hh (by simpa using hne)
  refine ⟨b, 0, rfl, .inr rfl, fun i x hx => ?_⟩
  obtain ⟨cs, h1, h2⟩ := rp.get hx
  refine ⟨cs, r.st Kp.shut h1, fun j v hv => ?_⟩
  have := row_cell hh _ _ (h2 j v hv)
  rw [show 0 + i * r.n + j = 0 + (i * r.n + j) by omega]
  exact this
theorem St.back {p : It} {i : Nat} (s0 : St w0 M I L w) (h : L[i]? = some p) (s1 : St w0 M I1 L1 w1) (k : Kp (fun b => I b ∨ p.foot = some b) w I1 w1) : St w0 M (fun b => I1 b ∧ p.foot ≠ some b) (p :: L1) w1 := by
  refine ⟨s1.only, List.pairwise_cons.2 ⟨fun q hq b hb hqb => s1.apart q hq b hqb (k b (.inr hb)).1, s1.pair⟩, ?_, ?_, ?_, fun b hb => s1.inn b hb.1⟩
  · intro q hq
    rcases List.mem_cons.1 hq with rfl | hq
    · exact It.sameF (s0.at h) fun b hb => (k b (.inr hb)).2
    · exact s1.here q hq
  · intro q hq b hb
    rcases List.mem_cons.1 hq with rfl | hq
    · exact s0.mine _ (List.mem_of_getElem? h) b hb
    · exact s1.mine q hq b hb
  · intro q hq b hb
    rcases List.mem_cons.1 hq with rfl | hq
    · exact fun hI => hI.2 hb
    · exact fun hI => s1.apart q hq b hb hI.1
theorem Kp.back {p : It} {i : Nat} (s0 : St w0 M I L w) (h : L[i]? = some p) (k : Kp (fun b => I b ∨ p.foot = some b) w I1 w1) : Kp I w (fun b => I1 b ∧ p.foot ≠ some b) w1 := fun b hb =>
  ⟨⟨(k b (.inl hb)).1, fun hf => s0.apart _ (List.mem_of_getElem? h) b hf hb⟩, (k b (.inl hb)).2⟩
/-- An element of a slice of one's own. -/
theorem St.elem (s : St w0 M I L w) {i j c e size n : Nat} {x : τ} (h : L[i]? = some (.sl (.slice A n c) e size n cl)) (hn : n = xs.length) (rp : RepL r I w cl xs) (hx : xs[j]? = some x) :
    (∃ b, A = some ⟨b, 0, none⟩) ∧ ∃ cs, r.rep I w cs x ∧ ∀ b, A = some ⟨b, 0, none⟩ → At w b (0 + j * r.n) cs := by
  subst hn
  have hh := s.at h
  have hlt := (List.getElem?_eq_some_iff.1 hx).1
  obtain ⟨b, rfl⟩ := row_addr hh (by omega)
  obtain ⟨cs, h1, h2⟩ := rp.get hx
  refine ⟨⟨b, rfl⟩, cs, h1, fun b' hb k v hv => ?_⟩
  cases hb
  rw [show 0 + j * r.n + k = 0 + (j * r.n + k) by omega]
  exact row_cell hh _ _ (h2 k v hv)
theorem setL_append (c : List Value) (vs : List Value) : ∀ (d : List Value) (k : Nat), setL (c ++ d) (c.length + k) vs = c ++ setL d k vs := by
  induction vs with
  | nil => intro d k; rfl
  | cons v vs ih =>
    intro d k
    simp only [setL]
    rw [List.set_append_right _ _ (by omega), show c.length + k - c.length = k by omega, Nat.add_assoc, ih]
theorem RepL.set {j : Nat} {x : τ} {cs : List Value} (h : RepL r I w cl xs) (hj : j < xs.length) (hx : r.rep I w cs x) : RepL r I w (setL cl (j * r.n) cs) (xs.set j x) := by
  induction xs generalizing cl j with
  | nil => simp at hj
  | cons y ys ih =>
    obtain ⟨c, d, rfl, h1, h2⟩ := h
    have hl := r.len h1
    have hlx := r.len hx
    cases j with
    | zero =>
      refine ⟨cs, d, ?_, hx, h2⟩
      have := setL_eq cs (c ++ d) (0 * r.n) (by simp; omega)
      rw [← this]
      simp [hlx, ← hl]
    | succ j =>
      refine ⟨c, setL d (j * r.n) cs, ?_, h1, ih h2 (by simpa using hj)⟩
      have e1 : (j + 1) * r.n = c.length + j * r.n := by rw [Nat.succ_mul]; omega
      rw [e1, setL_append]
end
end Go.SX
