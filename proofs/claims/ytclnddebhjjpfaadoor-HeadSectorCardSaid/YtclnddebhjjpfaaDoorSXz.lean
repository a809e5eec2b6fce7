/- SX, part z: noughts appended; a string as bytes; whether a slice is nil. -/
import Derived.Test.YtclnddebhjjpfaaDoorSXw
import Derived.Lib.ConvBytes
import Derived.Lib.AppendZerosOnto
namespace Go.SX
open Go Go.RowKit
variable {rd : Option Nat} {P : Program} {T : Tb} {E : List Value} {ds : List Deferred} {w w0 : World} {M I : Nat → Prop} {L : List It}

/-- The bytes of a string, as numbers. -/
def numsOf (s : ByteArray) : List Int := s.data.toList.map fun b => (b.toNat : Int)
theorem numsOf_len (s : ByteArray) : (numsOf s).length = s.size := by
  unfold numsOf
  rw [List.length_map, Array.length_toList]
  rfl
def ofStrV (E : List Value) : Op → Option (Nat × Nat × ByteArray)
  | .convert s d x => match ev E x with
    | .string b => some (s, d, b)
    | _ => none
  | _ => none
theorem grownCap_nn (w : World) (n e : Nat) (h : n ≤ 9223372036854775807) : n ≤ grownCap w n 0 e ∧ grownCap w n 0 e ≤ 9223372036854775807 := ⟨grownCap_ge w n 0 e, grownCap_le_maxLen w n 0 e h⟩
theorem OK.ofStr (hT : Tb.ok P T) {o : Oper} {K : Act → World → Prop} {sT dT eT : Nat} {b : ByteArray} {xs : List Int} (s : St w0 M I L w) (h : ofStrV E o.op = some (sT, dT, b))
    (h1 : (T sT).known = true) (h2 : (T sT).td = .str) (h3 : (T dT).known = true) (h4 : (T dT).td = .slice eT) (h5 : (T eT).known = true) (h6 : (T eT).td = .int .u8) (hx : xs = numsOf b) (hl : xs.length ≤ 9223372036854775807)
    (hk : ∀ (I' : Nat → Prop) (w1 : World) (g c : Nat), St w0 M I' L w1 → Kp I w I' w1 → (xs.length ≤ c ∧ c ≤ 9223372036854775807) → Elems (Rp.int .u8) I' w1 (some ⟨g, 0, none⟩) xs → K (ac (putE E o.dst (.slice (some ⟨g, 0, none⟩) xs.length c)) ds) w1) : opK rd P o K (ac E ds) w := by
  obtain ⟨dst, op, type, pos, after, guard⟩ := o
  simp only at h ⊢ hk
  unfold ofStrV at h
  split at h
  · rename_i s' d' x
    split at h
    · rename_i b' hv
      cases h
      have e1 := (hT _ h1).td; rw [h2] at e1
      have e2 := (hT _ h3).td; rw [h4] at e2
      have e3 := (hT _ h5).td; rw [h6] at e3
      simp only [TD.ok] at e1 e2 e3
      have run := Lib.run_convert_string_bytes (P := P) w sT dT eT b e1 e2 e3
      have hn : xs.length = b.size := by rw [hx, numsOf_len]
      have only : Only M0 w (Lib.bytesWorld w eT b) := ⟨rfl, rfl, rfl, by rw [Lib.bytesWorld_size]; omega, fun k hk _ => Lib.bytesWorld_at_old w eT b k hk⟩
      refine opK_eff (v := .slice (some ⟨w.heap.size, 0, none⟩) b.size (grownCap w b.size 0 eT)) (w' := Lib.bytesWorld w eT b) (by simp) (by simp [execOp, hv, run]) ?_
      have := hk (New w (Lib.bytesWorld w eT b) I) (Lib.bytesWorld w eT b) w.heap.size (grownCap w b.size 0 eT) (s.call only) (Kp.call s only) (by rw [hn]; exact grownCap_nn w b.size eT (by omega)) ?_
      · rw [hn] at this; exact this
      · intro _
        refine ⟨w.heap.size, 0, rfl, .inr ⟨Nat.le_refl _, by rw [Lib.bytesWorld_size]; omega⟩, fun i x hx2 => ⟨_, rfl, ?_⟩⟩
        have hi : i < b.size := by have := (List.getElem?_eq_some_iff.1 hx2).1; omega
        intro j v hj
        cases j with
        | zero =>
          simp only [List.getElem?_cons_zero, Option.some.injEq] at hj
          subst hj
          have := Lib.bytesWorld_cell w eT b i hi
          rw [show (0 + i * (Rp.int IntKind.u8).n + 0) = i from by show 0 + i * 1 + 0 = i; omega, this]
          rw [hx] at hx2
          simp only [numsOf, List.getElem?_map, Option.map_eq_some_iff] at hx2
          obtain ⟨u, hu, rfl⟩ := hx2
          rw [List.getD_eq_getElem?_getD, hu]
          rfl
        | succ j => simp at hj
    · cases h
  · cases h

/-! ### Noughts -/
def appZI {τ : Type} (xs : List τ) (n : Int) (x : τ) (b : Nat) : Option (List τ) := if 0 ≤ n ∧ ((xs.length : Int) + n) * b + ((xs.length : Int) + n) ≤ 140737488355328 then some (xs ++ List.replicate n.toNat x) else none
theorem appZS {τ : Type} {xs zs : List τ} {n : Int} {x : τ} {b : Nat} (h : appZI xs n x b = some zs) : 0 ≤ n ∧ (xs.length + n.toNat) * b + (xs.length + n.toNat) ≤ 140737488355328 ∧ zs = xs ++ List.replicate n.toNat x := by
  unfold appZI at h
  split at h
  · rename_i hc
    obtain ⟨h1, h2⟩ := hc
    obtain ⟨m, rfl⟩ : ∃ m : Nat, n = m := ⟨n.toNat, by omega⟩
    refine ⟨h1, ?_, (Option.some.inj h).symm⟩
    rw [Int.toNat_natCast]
    have e : (((xs.length + m) * b + (xs.length + m) : Nat) : Int) = ((xs.length : Int) + (m : Int)) * b + ((xs.length : Int) + (m : Int)) := by simp
    omega
  · cases h
theorem zero1 {z : Value} (m : Nat) (h : z.cells = #[z]) : (Builtin.zeroCells z.cells m).toList = List.replicate m z := by
  rw [h]
  apply List.ext_getElem
  · simp [Builtin.zeroCells]
  · intro i h1 h2
    simp [Builtin.zeroCells, Nat.mod_one]
theorem append_zeros_own (t tn ty e : Nat) (kq kn : IntKind) (i : TypeInfo) (z : Value) (bytes : Nat) (ht : P.underlying t = some (.slice e)) (htn : P.underlying tn = some (.int kn)) (hi : P.info? e = some i) (hz : i.zero = some z)
    (hsize : i.size = 1) (hby : i.bytes = bytes) (hzc : z.cells = #[z]) (hz1 : z.oneCell' = true) (v : Value) (n : Nat) (xs : List Value) (hown : w.ownsRow 0 e 1 v n xs)
    (m : Nat) (h63 : n + m ≤ maxLen) (hbytes : (n + m) * bytes ≤ 140737488355328) :
    ∃ v' w', (Builtin.append_ #[t, tn] ty #[v, .int kq m]).run P w = .ok v' w' ∧ w'.ownsRow 0 e 1 v' (n + m) (xs ++ List.replicate m z) ∧ w.grownBy w' v.ownBlock ∧ (v'.ownBlock = v.ownBlock ∨ v'.ownBlock = some w.heap.size) := by
  have hsmall : n + m ≤ 9223372036854775807 := by simp only [maxLen] at h63; omega
  have hmb : m * bytes ≤ 140737488355328 := Nat.le_trans (Nat.mul_le_mul_right _ (by omega)) hbytes
  have hw : IntKind.i64.wrap (m : Int) = m := by rw [IntKind.wrap_i64]; omega
  have hneg : ¬ ((m : Int) < 0) := by omega
  have h48i : ¬ (281474976710656 < (m : Int) * (i.bytes : Int)) := by rw [← Int.natCast_mul, hby]; omega
  have hzl : z.cells.size = 1 := by rw [hzc]; rfl
  have hzs := zero1 m hzc
  have hlen : (xs ++ List.replicate m z).length = (n + m) * 1 := by rw [List.length_append, hown.1, List.length_replicate]; omega
  by_cases hm : m = 0
  · subst hm
    refine ⟨v, w, ?_, by simpa using hown, ⟨rfl, rfl, rfl, Nat.le_refl _, fun _ _ _ => rfl⟩, .inl rfl⟩
    rcases hown.2 with ⟨rfl, rfl⟩ | ⟨g, cap, cur, rfl, hbg, hg, hnc, hcm, hcs, htake⟩
    · simp [Builtin.append_, run_underlying ht, run_underlying htn, sizeOf, typeInfo, zeroValue, hi, hz, asInt, asIntOf, show IntKind.i64.wrap 0 = 0 from by decide]
    · simp [Builtin.append_, run_underlying ht, run_underlying htn, sizeOf, typeInfo, zeroValue, hi, hz, asInt, asIntOf, show IntKind.i64.wrap 0 = 0 from by decide, hnc, storeCells]
  · have grown : ∀ (old : Nat) (base : Option Addr), old < n + m → (Builtin.firstCells i.size n (.slice base n old)).run P w.drew = .ok xs.toArray w.drew → ∃ v' w', (Builtin.append_ #[t, tn] ty #[.slice base n old, .int kq m]).run P w = .ok v' w' ∧ w'.ownsRow 0 e 1 v' (n + m) (xs ++ List.replicate m z) ∧ (∀ row, w.grownBy w' row) ∧ v'.ownBlock = some w.heap.size := by
      intro old base ho hold
      have hr := Lib.run_append_grow_zeros (P := P) w t tn ty e i z kq kn ht htn hi hz base n old xs hold m (by omega) (by omega) ho (by omega) (by rw [hby]; omega) (growslice_fits (by omega) (by rw [hby]; exact hbytes))
      refine ⟨_, _, hr, ⟨hlen, .inr ⟨w.heap.size, _, _, rfl, Nat.zero_le _, heap_alloc_new w.drew _, grownCap_ge w (n + m) old e, grownCap_le_maxLen w (n + m) old e h63, ?_, ?_⟩⟩, fun row => ⟨rfl, rfl, rfl, by simp, fun k hk _ => heap_alloc_old w.drew _ k hk⟩, rfl⟩
      · have hge := grownCap_ge w (n + m) old e
        simp only [Array.size_append, List.size_toArray, size_zeroCells, hzl, hown.1]
        omega
      · simp only [Array.toList_append, hzs, List.append_assoc]
        rw [← List.append_assoc, ← hlen]
        exact List.take_left
    rcases hown.2 with ⟨rfl, rfl⟩ | ⟨g, cap, cur, rfl, hbg, hg, hnc, hcm, hcs, htake⟩
    · have hx : xs = [] := List.eq_nil_of_length_eq_zero (by simpa using hown.1)
      subst hx
      obtain ⟨v', w', r1, r2, r3, r4⟩ := grown 0 none (by omega) (by simp [Builtin.firstCells])
      exact ⟨v', w', r1, r2, r3 _, .inr r4⟩
    · by_cases hroom : n + m ≤ cap
      · have hns : ¬ (m * i.size = 0) := Nat.mul_ne_zero hm (by omega)
        have hfit : n * 1 + (List.replicate m z).length ≤ cur.size := by rw [List.length_replicate, hcs]; omega
        have hst := run_storeCells_at P g (n * 1) e (List.replicate m z) 0 cur w hg (by simpa using hfit) (fun u hu => by rw [(List.mem_replicate.1 hu).2]; exact hz1)
        simp only [Nat.add_zero] at hst
        have hr : (Builtin.append_ #[t, tn] ty #[.slice (some ⟨g, 0, none⟩) n cap, .int kq m]).run P w = .ok (.slice (some ⟨g, 0, none⟩) (n + m) cap) (w.setRow g (cur.toList.take (n * 1) ++ List.replicate m z ++ cur.toList.drop (n * 1 + (List.replicate m z).length)).toArray) := by
          simp [Builtin.append_, run_underlying ht, run_underlying htn, sizeOf, typeInfo, zeroValue, hi, hz, asInt, asIntOf, hw, hneg, hns, h48i, hroom, Addr.add_lit, hzs]
          rw [hsize]
          simp only [Nat.mul_one, List.length_replicate, List.append_assoc] at hst
          simp [hst]
        refine ⟨_, _, hr, ⟨hlen, .inr ⟨g, cap, _, rfl, hbg, setRow_heap w g cur _ e _ hg, hroom, hcm, ?_, ?_⟩⟩, ⟨rfl, rfl, rfl, by simp, fun k _ hk => setRow_other w g k _ (fun e => hk (by simp [Value.ownBlock, e]))⟩, .inl rfl⟩
        · simp only [List.size_toArray, List.length_append, List.length_take, List.length_drop, Array.length_toList]
          omega
        · rw [htake, ← hlen]
          exact List.take_left
      · have holds : ∀ j u, xs[j]? = some u → w.cell? ((⟨g, 0, none⟩ : Addr).add j) = some u := hown.cells (g := g) rfl
        obtain ⟨v', w', r1, r2, r3, r4⟩ := grown cap (some ⟨g, 0, none⟩) (by omega) (by
          have hl := run_loadCells_list (P := P) w.drew ⟨g, 0, none⟩ xs (fun j v hj => holds j v hj)
          rw [hown.1] at hl
          simp only [Builtin.firstCells, hsize]
          exact hl)
        exact ⟨v', w', r1, r2, r3 _, .inr r4⟩
def appZV (E : List Value) : Op → Option (Value × Int × Nat × Nat)
  | .call ⟨.builtin .append, ⟨[s, x]⟩, ⟨[t, t']⟩⟩ => match ev E x with
    | .int _ m => some (ev E s, m, t, t')
    | _ => none
  | _ => none
variable {τ : Type} {r : Rp τ} {xs ys zs : List τ} {cl news : List Value} {A A2 : Option Addr}
theorem OK.appZ (hT : Tb.ok P T) {K : Act → World → Prop} {o : Oper} {i t tn e bytes c n : Nat} {m : Int} {kn : IntKind} {x : τ} (s : St w0 M I L w) (h : appZV E o.op = some (.slice A n c, m, t, tn))
    (htk : (T t).known = true) (ht : (T t).td = .slice e) (hnk : (T tn).known = true) (hn' : (T tn).td = .int kn) (hek : (T e).known = true) (hes : (T e).size = 1) (hez : (T e).zero.cells = #[(T e).zero]) (hz1 : (T e).zero.oneCell' = true) (hby : (T e).bytes = bytes)
    (hL : L[i]? = some (.sl (.slice A n c) e 1 n cl)) (hxs : n = xs.length) (rp : RepL r I w cl xs) (hf : r.Flat) (hz : ∀ I w, r.rep I w [(T e).zero] x) (g : appZI xs m x bytes = some zs)
    (hk : ∀ A' c' cl' w1, St w0 M I (L.set i (.sl (.slice A' zs.length c') e 1 zs.length cl')) w1 → Kp I w I w1 → RepL r I w1 cl' zs → K (ac (putE E o.dst (.slice A' zs.length c')) ds) w1) :
    opK rd P o K (ac E ds) w := by
  subst hxs
  obtain ⟨g0, g1, g2⟩ := appZS g
  obtain ⟨m, rfl⟩ : ∃ k : Nat, m = k := ⟨m.toNat, by omega⟩
  rw [Int.toNat_natCast] at g1 g2
  have hlen : zs.length = xs.length + m := by rw [g2, List.length_append, List.length_replicate]
  obtain ⟨dst, op, type, pos, after, guard⟩ := o
  simp only at h ⊢ hk
  unfold appZV at h
  split at h
  · rename_i sx x' t1 t2
    split at h
    · rename_i kq mm hx
      simp only [Option.some.injEq, Prod.mk.injEq] at h
      obtain ⟨hsx, rfl, rfl, rfl⟩ := h
      have h2 := (hT _ htk).td; rw [ht] at h2
      have h3 := (hT _ hnk).td; rw [hn'] at h3
      simp only [TD.ok] at h2 h3
      obtain ⟨inf, hi1, hi2⟩ := Option.map_eq_some_iff.1 (hT _ hek).info
      simp only [Prod.mk.injEq] at hi2
      have hown : w.ownsRow 0 e 1 (.slice A xs.length c) xs.length cl := s.at hL
      obtain ⟨v', w', hr, r1, r2, r3⟩ := append_zeros_own (P := P) (w := w) t1 t2 type e kq kn inf (T e).zero (T e).bytes h2 h3 hi1 hi2.2.2 (hi2.1.trans hes) hi2.2.1 hez hz1 _ xs.length cl hown m (by simp only [maxLen]; omega) (by rw [hby]; omega)
      have run : (execOp (ev E) (⟨dst, .call ⟨.builtin .append, ⟨[sx, x']⟩, ⟨[t1, t2]⟩⟩, type, pos, after, guard⟩ : Oper)).run P w = .ok (.value v') w' := by
        simp [execOp, resolve, invoke, builtin, hx, hsx, hr, Result.andThen]
      have s2 := s.turn (p' := .sl v' e 1 (xs.length + m) (cl ++ List.replicate m (T e).zero)) hL r2 r1 (fun c hc => by
        rcases r3 with r3 | r3
        · exact .inl (r3.symm.trans hc)
        · refine .inr ?_
          have : v'.ownBlock = some c := hc
          rw [r3] at this
          simp only [Option.some.injEq] at this
          omega)
      have k2 := Kp.turn s hL r2
      have hv : ∃ A' c', v' = .slice A' (xs.length + m) c' := by
        obtain ⟨_, ⟨h2, h3⟩ | ⟨g, cap, cur, h3, _⟩⟩ := r1
        · exact ⟨none, 0, by rw [h3]; exact h2⟩
        · exact ⟨_, _, h3⟩
      obtain ⟨A', c', rfl⟩ := hv
      refine opK_eff (by simp) run ?_
      have := hk A' c' (cl ++ List.replicate m (T e).zero) w' (by rw [hlen]; exact s2) k2 (by rw [g2]; exact (rp.st k2).app (RepL.rep (hz _ _) m))
      rw [hlen] at this
      exact this
    · cases h
  · cases h
/-! ### Bytes that a constant string was laid as -/
def convV (E : List Value) : Op → Option (Nat × Nat × Value)
  | .convert s d x => some (s, d, ev E x)
  | _ => none
theorem freeze_at {b : Nat} {cur : Array Value} {e : Nat} (h : w.heap[b]? = some (.cells cur e (0, 0))) : (w.freeze ⟨b, cur.size, none⟩ 1).heap[b]? = some (.cells cur e (cur.size, cur.size + 1)) := by
  have hlt := (Array.getElem?_eq_some_iff.1 h).1
  have hv := (Array.getElem?_eq_some_iff.1 h).2
  unfold World.freeze
  rw [if_neg (by decide)]
  simp only [Array.getElem?_modify, h, if_true, Option.map_some]
  simp
theorem freeze_other {b k n : Nat} (hk : b ≠ k) : (w.freeze ⟨b, n, none⟩ 1).heap[k]? = w.heap[k]? := by
  unfold World.freeze
  rw [if_neg (by decide)]
  simp only [Array.getElem?_modify]
  simp [hk]
theorem OK.mark (hT : Tb.ok P T) {o : Oper} {K : Act → World → Prop} {t eT i b c e n : Nat} {cl : List Value} {xs : List Int} (s : St w0 M I L w) (h : convV E o.op = some (t, t, .slice (some ⟨b, 0, none⟩) n c))
    (h1 : (T t).known = true) (h2 : (T t).td = .slice eT) (h3 : (T eT).known = true) (h4 : (T eT).td = .int .u8) (hL : L[i]? = some (.sl (.slice (some ⟨b, 0, none⟩) n c) e 1 n cl)) (hn : n = xs.length) (rp : RepL (Rp.int .u8) I w cl xs)
    (hk : ∀ (I' : Nat → Prop) (w1 : World), St w0 M I' (L.eraseIdx i) w1 → Kp I w I' w1 → (xs.length ≤ c ∧ c ≤ 9223372036854775807) → Elems (Rp.int .u8) I' w1 (some ⟨b, 0, none⟩) xs → K (ac (putE E o.dst (.slice (some ⟨b, 0, none⟩) xs.length c)) ds) w1) : opK rd P o K (ac E ds) w := by
  subst hn
  obtain ⟨dst, op, type, pos, after, guard⟩ := o
  simp only at h ⊢ hk
  unfold convV at h
  split at h
  · rename_i s' d' x
    simp only [Option.some.injEq, Prod.mk.injEq] at h
    obtain ⟨rfl, rfl, hx⟩ := h
    have e1 := (hT _ h1).td; rw [h2] at e1
    have e3 := (hT _ h3).td; rw [h4] at e3
    simp only [TD.ok] at e1 e3
    have hrow : w.ownsRow 0 e 1 (.slice (some ⟨b, 0, none⟩) xs.length c) xs.length cl := s.at hL
    obtain ⟨hlen, ⟨h0, _⟩ | ⟨g, cap, cur, hv, _, hg, hnc, hcm, hcs, htk⟩⟩ := hrow
    · simp at h0
    · simp only [Value.slice.injEq, Option.some.injEq, Addr.mk.injEq, and_true, true_and] at hv
      obtain ⟨rfl, rfl⟩ := hv
      have hsh : w.shape? b = some (e, cur.size) := by simp [World.shape?, hg]
      have run : (convert d' d' (.slice (some ⟨b, 0, none⟩) xs.length c)).run P w = .ok (.slice (some ⟨b, 0, none⟩) xs.length c) (w.freeze ⟨b, cur.size, none⟩ 1) := by
        simp [convert, run_underlying e1, run_underlying e3, markStringish, hsh]
      have gb : w.grownBy (w.freeze ⟨b, cur.size, none⟩ 1) (some b) := ⟨rfl, rfl, rfl, by simp [World.freeze], fun k _ hk => freeze_other (fun e => hk (by rw [e]))⟩
      have s2 := s.turn (p' := .blk b (.cells cur e (cur.size, cur.size + 1))) hL gb (freeze_at hg) (fun c hc => .inl hc)
      have k2 := Kp.turn s hL gb
      have hlt := (List.getElem?_eq_some_iff.1 hL).1
      have hL2 : (L.set i (.blk b (.cells cur e (cur.size, cur.size + 1))))[i]? = some (.blk b (.cells cur e (cur.size, cur.size + 1))) := List.getElem?_set_self hlt
      have s3 := s2.shut i hL2
      rw [eraseSet] at s3
      refine opK_eff (by simp) (by simp [execOp, hx, run]) (hk _ _ s3 (k2.trans Kp.shut) ⟨hnc, hcm⟩ ?_)
      intro _
      have hcl := repl_int rp
      refine ⟨b, 0, rfl, .inr rfl, fun j x hj => ⟨_, rfl, ?_⟩⟩
      intro q v hq
      cases q with
      | zero =>
        simp only [List.getElem?_cons_zero, Option.some.injEq] at hq
        subst hq
        rw [show (0 + j * (Rp.int IntKind.u8).n + 0) = j from by show 0 + j * 1 + 0 = j; omega]
        have hc1 : cl[j]? = some (Value.int .u8 x) := by rw [hcl, List.getElem?_map, hj]; rfl
        rw [← htk, List.getElem?_take] at hc1
        have hjl : j < xs.length * 1 := by have := (List.getElem?_eq_some_iff.1 hj).1; omega
        rw [if_pos hjl] at hc1
        have := freeze_at (w := w) hg
        simp only [World.cell?, this]
        simpa using hc1
      | succ q => simp at hq
  · cases h
theorem none_of {A : Option Addr} {z : Bool} (h : A.isNone = z) : A.isNone = z := h
theorem some_pos {I : Nat → Prop} (e : Elems r I w A xs) (h : 0 < xs.length) : A.isNone = false := by
  obtain ⟨b, o, hA, _⟩ := e (by intro h0; rw [h0] at h; simp at h)
  rw [hA]; rfl
theorem neg_v {a z : Bool} (h : a = z) : Value.bool (!a) = Value.bool (!z) := by rw [h]
theorem pos_v {a z : Bool} (h : a = z) : Value.bool a = Value.bool z := by rw [h]
end Go.SX
