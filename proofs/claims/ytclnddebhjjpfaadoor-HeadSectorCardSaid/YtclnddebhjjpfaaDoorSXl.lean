/- SX, part l: rules for slices of one's own. -/
import Derived.Test.YtclnddebhjjpfaaDoorSXk
namespace Go.SX
open Go Go.RowKit
variable {rd : Option Nat} {P : Program} {T : Tb} {E : List Value} {ds : List Deferred} {w w0 w1 : World} {M I I1 : Nat → Prop} {L L1 : List It}

def optC {τ ρ : Type} (o : Option τ) (a : ρ) (b : τ → ρ) : ρ := match o with
  | none => a
  | some x => b x
theorem optN {τ ρ : Type} {o : Option τ} {a r : ρ} {b : τ → ρ} (h : o = none) (hf : optC o a b = r) : a = r := by subst h; exact hf
theorem optS {τ ρ : Type} {o : Option τ} {a r : ρ} {b : τ → ρ} {x : τ} (h : o = some x) (hf : optC o a b = r) : b x = r := by subst h; exact hf
theorem repS {τ : Type} {n : Int} {x : τ} {b : Nat} {xs : List τ} (h : repI n x b = some xs) : (0 ≤ n ∧ n * (b : Int) + n ≤ 140737488355328) ∧ xs = List.replicate n.toNat x := by
  unfold repI at h
  split at h
  · cases h; exact ⟨by assumption, rfl⟩
  · cases h
theorem appS {τ : Type} {xs ys zs : List τ} {b : Nat} (h : appI xs ys b = some zs) : (xs.length + ys.length) * b + (xs.length + ys.length) ≤ 140737488355328 ∧ zs = xs ++ ys := by
  unfold appI at h
  split at h
  · cases h; exact ⟨by assumption, rfl⟩
  · cases h
theorem setS {τ : Type} {xs ys : List τ} {i : Int} {x : τ} (h : setI xs i x = some ys) : (0 ≤ i ∧ i < (xs.length : Int)) ∧ ys = xs.set i.toNat x := by
  unfold setI at h
  split at h
  · cases h; exact ⟨by assumption, rfl⟩
  · cases h

def Rp.Flat {τ : Type} (r : Rp τ) : Prop := ∀ I w cs x, r.rep I w cs x → flatv cs
theorem flat_int {k : IntKind} : (Rp.int k).Flat := by rintro I w cs x rfl v hv; rw [List.mem_singleton.1 hv]; rfl
theorem flat_bool : Rp.bool.Flat := by rintro I w cs x rfl v hv; rw [List.mem_singleton.1 hv]; rfl
theorem flat_str : Rp.str.Flat := by rintro I w cs x rfl v hv; rw [List.mem_singleton.1 hv]; rfl
theorem flat_slice {τ : Type} {r : Rp τ} : (Rp.slice r).Flat := by rintro I w cs x ⟨A, c, rfl, _⟩ v hv; rw [List.mem_singleton.1 hv]; rfl
theorem flat_pair {σ τ : Type} {r : Rp σ} {s : Rp τ} (h1 : r.Flat) (h2 : s.Flat) : (Rp.pair r s).Flat := by
  rintro I w cs x ⟨c, d, rfl, h3, h4⟩ v hv
  rcases List.mem_append.1 hv with hv | hv
  · exact h1 _ _ _ _ h3 v hv
  · exact h2 _ _ _ _ h4 v hv
theorem flat_iso {σ τ : Type} {f : σ → τ} {r : Rp τ} (h : r.Flat) : (Rp.iso f r).Flat := fun I w cs x hx => h I w cs (f x) hx
section
variable {τ : Type} {r : Rp τ} {xs ys zs : List τ} {cl news : List Value} {A A2 : Option Addr}
theorem RepL.flat (hf : r.Flat) (h : RepL r I w cl xs) : flatv cl := by
  induction xs generalizing cl with
  | nil => have : cl = [] := h; subst this; intro v hv; cases hv
  | cons x xs ih =>
    obtain ⟨c, d, rfl, h1, h2⟩ := h
    intro v hv
    rcases List.mem_append.1 hv with hv | hv
    · exact hf _ _ _ _ h1 v hv
    · exact ih h2 v hv
theorem RepL.nil : RepL r I w [] ([] : List τ) := rfl
theorem RepL.cons {c d : List Value} {x : τ} (h : r.rep I w c x) (h2 : RepL r I w d xs) : RepL r I w (c ++ d) (x :: xs) := ⟨c, d, rfl, h, h2⟩
theorem RepL.rep {z : Value} {x : τ} (h : r.rep I w [z] x) : ∀ n, RepL r I w (List.replicate n z) (List.replicate n x)
  | 0 => rfl
  | n + 1 => ⟨[z], List.replicate n z, rfl, h, RepL.rep h n⟩
theorem elems_cells {b : Nat} : ∀ {xs : List τ} {o : Nat}, (∀ i x, xs[i]? = some x → ∃ cs, r.rep I w cs x ∧ At w b (o + i * r.n) cs) → ∃ news, At w b o news ∧ RepL r I w news xs
  | [], _, _ => ⟨[], fun j v hv => by simp at hv, rfl⟩
  | x :: xs, o, h => by
    obtain ⟨cs, h1, h2⟩ := h 0 x rfl
    obtain ⟨news, h3, h4⟩ := elems_cells (xs := xs) (o := o + r.n) fun i y hy => by
      obtain ⟨ds, h5, h6⟩ := h (i + 1) y (by simpa using hy)
      exact ⟨ds, h5, by rw [Nat.succ_mul] at h6; rw [show o + r.n + i * r.n = o + (i * r.n + r.n) by omega]; exact h6⟩
    refine ⟨cs ++ news, fun j v hv => ?_, cs, news, rfl, h1, h4⟩
    have hl := r.len h1
    rcases Nat.lt_or_ge j cs.length with hj | hj
    · rw [List.getElem?_append_left hj] at hv
      have := h2 j v hv
      simpa using this
    · rw [List.getElem?_append_right hj] at hv
      have := h3 _ _ hv
      rw [show o + j = o + r.n + (j - cs.length) by omega]
      exact this
theorem Elems.src (h : Elems r I w A xs) : ∃ news, Src w A news ∧ RepL r I w news xs := by
  by_cases hx : xs = []
  · subst hx
    cases A with
    | none => exact ⟨[], .inl ⟨rfl, rfl⟩, rfl⟩
    | some a => exact ⟨[], .inr ⟨a, rfl, fun j v hv => by simp at hv⟩, rfl⟩
  · obtain ⟨b, o, hA, _, hc⟩ := h hx
    obtain ⟨news, h1, h2⟩ := elems_cells hc
    exact ⟨news, .inr ⟨_, hA, at_add h1⟩, h2⟩
/-- A slice of one's own is given away to be read. -/
theorem St.give (s : St w0 M I L w) {i c e size n : Nat} (h : L[i]? = some (.sl (.slice A n c) e size n cl)) (hn : n = xs.length) (rp : RepL r I w cl xs) :
    ∃ I', St w0 M I' (L.eraseIdx i) w ∧ Kp I w I' w ∧ (xs.length ≤ c ∧ c ≤ 9223372036854775807) ∧ Elems r I' w A xs := by
  obtain ⟨h1, h2⟩ := St.lend s h hn rp
  exact ⟨_, s.shut i h, Kp.shut, h1, h2⟩
theorem RW.make (hT : Tb.ok P T) {ops : List Oper} {K : Kont} {o : Oper} {rest : List Oper} {n : Int} {z : Value} {x : τ} {e bytes : Nat} (s : St w0 M I L w) (hw : want ops E o = true)
    (h : newV T E o.op = some (fun b => .slice (some ⟨b, 0, none⟩) n.toNat n.toNat, List.replicate n.toNat z, e, .both (.cut 0 n n n) (.le (bytes * n.toNat + n.toNat) 140737488355328)))
    (g : repI n x bytes = some xs) (hz : ∀ I w, r.rep I w [z] x)
    (hk : ∀ w1 b cl, St w0 M I (.sl (.slice (some ⟨b, 0, none⟩) xs.length xs.length) e 1 xs.length cl :: L) w1 → Kp I w I w1 → RepL r I w1 cl xs → RW rd P ops.toArray K rest (ac (putE E o.dst (.slice (some ⟨b, 0, none⟩) xs.length xs.length)) ds) w1) :
    RW rd P ops.toArray K (o :: rest) (ac E ds) w := by
  obtain ⟨⟨g1, g2⟩, g3⟩ := repS g
  have hlen : xs.length = n.toNat := by rw [g3]; simp
  have hb : bytes * n.toNat + n.toNat ≤ 140737488355328 := by
    have : ((bytes * n.toNat + n.toNat : Nat) : Int) ≤ 140737488355328 := by
      rw [Int.natCast_add, Int.natCast_mul, Int.toNat_of_nonneg g1, Int.mul_comm]; exact g2
    omega
  refine RW.new hT s hw h ⟨⟨Int.le_refl _, g1, Int.le_refl _, Int.le_refl _⟩, hb⟩ fun w1 b s1 k1 _ => ?_
  have s2 := s1.blkSl (i := 0) (n := xs.length) (c := xs.length) (size := 1) rfl (by simp [hlen]) (Nat.le_refl _) (by omega)
  have := hk w1 b _ s2 k1 (by
    rw [List.take_of_length_le (by simp [hlen]), g3]
    exact RepL.rep (hz _ _) _)
  rw [hlen] at this
  exact this
theorem RW.app (hT : Tb.ok P T) {ops : List Oper} {K : Kont} {o : Oper} {rest : List Oper} {i t e size bytes c n : Nat} (s : St w0 M I L w) (hw : want ops E o = true) {m : Nat} (h : appV E o.op = some (.slice A n c, A2, m, t, t))
    (htk : (T t).known = true) (ht : (T t).td = .slice e) (hek : (T e).known = true) (hes : (T e).size = size) (hez : (T e).zero.cells.size = size) (hpos : 0 < size) (hby : (T e).bytes = bytes)
    (hL : L[i]? = some (.sl (.slice A n c) e size n cl)) (hxs : n = xs.length) (hys : m = ys.length) (rp : RepL r I w cl xs) (hs : Src w A2 news) (rq : RepL r I w news ys) (hf : r.Flat) (hn : r.n = size) (g : appI xs ys bytes = some zs)
    (hk : ∀ A' c' cl' w1, St w0 M I (L.set i (.sl (.slice A' zs.length c') e size zs.length cl')) w1 → Kp I w I w1 → RepL r I w1 cl' zs → RW rd P ops.toArray K rest (ac (putE E o.dst (.slice A' zs.length c')) ds) w1) :
    RW rd P ops.toArray K (o :: rest) (ac E ds) w := by
  subst hxs
  subst hys
  obtain ⟨g1, g2⟩ := appS g
  have hlen : zs.length = xs.length + ys.length := by rw [g2, List.length_append]
  refine RW.append hT s hw h htk ht hek hes hez hpos hL hs (by rw [rq.length, hn]) (rq.flat hf) (by rw [hby]; exact g1) fun v' w2 s2 k2 _ => ?_
  have hlt := (List.getElem?_eq_some_iff.1 hL).1
  have hh := s2.at (i := i) (p := .sl v' e size (xs.length + ys.length) (cl ++ news)) (List.getElem?_set_self hlt)
  have hv : ∃ A' c', v' = .slice A' (xs.length + ys.length) c' := by
    obtain ⟨_, ⟨h2, h3⟩ | ⟨g, cap, cur, h3, _⟩⟩ := hh
    · exact ⟨none, 0, by rw [h3]; exact h2⟩
    · exact ⟨_, _, h3⟩
  obtain ⟨A', c', rfl⟩ := hv
  have := hk A' c' (cl ++ news) w2 (by rw [hlen]; exact s2) k2 (by rw [g2]; exact (rp.st k2).app (rq.st k2))
  rw [hlen] at this
  exact this
theorem St.src (s : St w0 M I L w) {i c e size n : Nat} (h : L[i]? = some (.sl (.slice A n c) e size n cl)) (hn : n = xs.length) (rp : RepL r I w cl xs) : Src w A cl := by
  subst hn
  have hh := s.at h
  by_cases hx : xs.length = 0
  · have : cl = [] := by
      have := rp.length
      rw [hx, Nat.zero_mul] at this
      exact List.eq_nil_of_length_eq_zero this
    subst this
    obtain ⟨_, ⟨h2, _⟩ | ⟨g, cap, cur, h3, _⟩⟩ := hh
    · exact .inl ⟨by simp at h2; exact h2.1, rfl⟩
    · cases h3; exact .inr ⟨_, rfl, fun j v hv => by simp at hv⟩
  · obtain ⟨b, rfl⟩ := row_addr hh hx
    exact .inr ⟨_, rfl, at_add (row_cell hh)⟩
/-- A store into an element of a slice of one's own. -/
theorem RW.storeSl (hT : Tb.ok P T) {ops : List Oper} {K : Kont} {o : Oper} {rest : List Oper} {i b off m c e size n : Nat} {vs cl' : List Value} (s : St w0 M I L w) (hw : want ops E o = true) (h : storeV T E o.op = some (b, off, m, vs))
    (hL : L[i]? = some (.sl (.slice (some ⟨b, 0, none⟩) n c) e size n cl)) (hn : vs.length = m) (h1 : flatv vs) (hl : off + vs.length ≤ cl.length) (hcl : setL cl off vs = cl')
    (hk : ∀ w1, St w0 M I (L.set i (.sl (.slice (some ⟨b, 0, none⟩) n c) e size n cl')) w1 → Kp I w I w1 → RW rd P ops.toArray K rest (ac (putE E o.dst undef) ds) w1) : RW rd P ops.toArray K (o :: rest) (ac E ds) w := by
  have hh := s.at hL
  obtain ⟨q1, h2 | ⟨g, cap, cur, h3, q2, q3, q4, q5, q6, q7⟩⟩ := hh
  · simp at h2
  · cases h3
    have hcl0 : cl.length ≤ cur.toList.length := by rw [← q7]; simp; omega
    obtain ⟨r1, r2⟩ := store_ok (P := P) (w := w) (cs := cur.toList) hT h hn h1 (by simpa using q3) (by omega)
    have hlen := setL_length vs cl off
    have hpre : ∀ (vs : List Value) (off k : Nat) (cs : List Value), off + vs.length ≤ k → (setL cs off vs).take k = setL (cs.take k) off vs := by
      intro vs
      induction vs with
      | nil => intro off k cs _; rfl
      | cons v vs ih =>
        intro off k cs hk
        simp only [List.length_cons] at hk
        simp only [setL]
        rw [ih _ _ _ (by omega), List.take_set]
    refine RW.effS hw r2 r1 (hk _ ?_ ?_)
    · refine s.turn hL (grownBy_setRow (g := b)) ⟨by rw [← hcl, hlen, q1], .inr ⟨b, c, (setL cur.toList off vs).toArray, rfl, q2, ?_, q4, q5, ?_, ?_⟩⟩ (fun _ hc => .inl hc)
      · exact setRow_heap w b cur _ e (0, 0) q3
      · simp [setL_length, q6]
      · rw [show (setL cur.toList off vs).toArray.toList = setL cur.toList off vs from rfl, hpre _ _ _ _ (by omega), q7, hcl]
    · exact Kp.turn s hL (grownBy_setRow (g := b))
theorem Elems.none_nil (e : Elems r I w none xs) : xs = [] := by
  by_cases h : xs = []
  · exact h
  · obtain ⟨_, _, h1, _⟩ := e h; cases h1
theorem St.none_nil (s : St w0 M I L w) {i c e size n : Nat} (h : L[i]? = some (.sl (.slice none n c) e size n cl)) (hn : n = xs.length) : xs = [] := by
  subst hn
  by_cases hx : xs.length = 0
  · exact List.eq_nil_of_length_eq_zero hx
  · obtain ⟨b, hb⟩ := row_addr (s.at h) hx; cases hb
def Rp.Free {τ : Type} (r : Rp τ) : Prop := ∀ I w I' w' cs x, r.rep I w cs x → r.rep I' w' cs x
theorem free_int {k : IntKind} : (Rp.int k).Free := fun _ _ _ _ _ _ h => h
theorem free_bool : Rp.bool.Free := fun _ _ _ _ _ _ h => h
theorem free_str : Rp.str.Free := fun _ _ _ _ _ _ h => h
theorem RepL.free {I' : Nat → Prop} {w' : World} (hf : r.Free) (h : RepL r I w cl xs) : RepL r I' w' cl xs := by
  induction xs generalizing cl with
  | nil => exact h
  | cons x xs ih =>
    obtain ⟨c, d, rfl, h1, h2⟩ := h
    exact ⟨c, d, rfl, hf _ _ _ _ _ _ h1, ih h2⟩
theorem len_v {n m : Nat} (h : n = m) : Value.int .i64 (n : Int) = .int .i64 (m : Int) := by rw [h]
theorem int_v {k : IntKind} {a b : Int} (h : a = b) : Value.int k a = .int k b := by rw [h]
end
end Go.SX
