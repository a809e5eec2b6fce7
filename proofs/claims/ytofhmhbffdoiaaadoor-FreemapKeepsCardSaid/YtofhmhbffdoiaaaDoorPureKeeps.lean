/- FreemapKeeps, the plain law. -/
import Derived.Test.YtofhmhbffdoiaaaDoorKA
namespace Go.Proofs.YtofhmhbffdoiaaaDoor
open Go Go.SX Go.VX
set_option maxRecDepth 100000
set_option linter.unusedVariables false
set_option linter.unusedSimpArgs false
structure Kps (n : Nat) (m : Mp) (b : List Int) : Prop where
  fr : ∀ q, q < n → m.fr q = true → m.wa q = true
  ow : ∀ q, q < n → m.ow q = true → m.wa q = true
  beg : b = castL (pgs n (fun q => !m.wa q) 0)
theorem Kps.take {n : Nat} {m : Mp} {b : List Int} (h : Kps n m b) {r k : Int} (hk : 1 ≤ k) (ha : AllIn n m.fr r k) : Kps n (takeM m r.toNat k.toNat) b := by
  obtain ⟨a1, a2, a3⟩ := ha
  refine ⟨fun q hq hf => ?_, fun q hq hf => ?_, h.beg⟩
  · unfold takeM at hf ⊢
    simp only [Bool.and_eq_true] at hf
    exact h.fr q hq hf.1
  · unfold takeM inR at hf
    unfold takeM
    simp only [Bool.or_eq_true, decide_eq_true_eq] at hf
    simp only
    rcases hf with hf | hf
    · exact h.ow q hq hf
    · exact h.fr q hq (a3 q (by omega) (by omega))
theorem Kps.free {n : Nat} {m : Mp} {b : List Int} (h : Kps n m b) {p : Int} (hp : hasP n m p) : Kps n (freeM m p.toNat) b := by
  obtain ⟨a, c, d, e⟩ := hp
  unfold freeM
  by_cases ho : m.ow p.toNat = true
  · rw [if_pos ho]
    refine ⟨fun q hq hf => ?_, fun q hq hf => ?_, h.beg⟩
    · simp only [upd] at hf ⊢
      by_cases hqp : q = p.toNat
      · rw [hqp]; exact h.ow _ (by omega) ho
      · rw [if_neg hqp] at hf; exact h.fr q hq hf
    · simp only [upd] at hf ⊢
      by_cases hqp : q = p.toNat
      · rw [if_pos hqp] at hf; cases hf
      · rw [if_neg hqp] at hf; exact h.ow q hq hf
  · rw [if_neg ho]
    refine ⟨h.fr, fun q hq hf => ?_, h.beg⟩
    simp only [upd] at hf ⊢
    by_cases hqp : q = p.toNat
    · rw [if_pos hqp] at hf; cases hf
    · rw [if_neg hqp] at hf; exact h.ow q hq hf
theorem Kps.new (n : Nat) (f : Nat → Bool) : Kps n (newM f) (castL (pgs n (fun q => !f q) 0)) := ⟨fun _ _ h => h, fun _ _ h => (by cases h), rfl⟩
/-- What was free is none of those that count. -/
theorem Kps.out {n : Nat} {m : Mp} {b : List Int} (h : Kps n m b) {q : Nat} (hq : q < n) (hf : m.fr q = true) : ¬ (q : Int) ∈ b := by
  rw [h.beg, mem_castL]
  rintro ⟨q', e, _, _, h2⟩
  have : q' = q := by omega
  rw [this, h.fr q hq hf] at h2
  cases h2
theorem index_loop {xs : List Int} (hx : xs.length ≤ 1000000) (v : Int) : ∀ (fuel i : Nat), i ≤ xs.length → xs.length - i < fuel → ∃ r : Int, s44_l1 fuel xs v (xs.length : Int) i = some r ∧ (r ≥ 0 ↔ v ∈ xs.drop i) := by
  intro fuel
  induction fuel with
  | zero => intro i _ h; omega
  | succ fuel ih =>
    intro i hi hf
    show ∃ r : Int, s44_l1B (s44_l1 fuel) xs v (xs.length : Int) i = some r ∧ _
    unfold s44_l1B
    by_cases h : i < xs.length
    · rw [if_pos (by omega), getI_nat, List.getElem?_eq_getElem h, Option.bind_some, List.drop_eq_getElem_cons h]
      by_cases hv : v = xs[i]
      · rw [if_pos hv]
        exact ⟨i, rfl, fun _ => by rw [hv]; exact List.mem_cons_self .., fun _ => by omega⟩
      · rw [if_neg hv, i64_in _ (by omega), show (i : Int) + 1 = ((i + 1 : Nat) : Int) by omega]
        obtain ⟨r, e, hr⟩ := ih (i + 1) (by omega) (by omega)
        refine ⟨r, e, hr.trans ?_⟩
        rw [List.mem_cons]
        exact ⟨.inr, fun h => h.resolve_left hv⟩
    · rw [if_neg (by omega), List.drop_eq_nil_of_le (by omega)]
      exact ⟨-1, rfl, fun h => absurd h (by decide), fun h => by cases h⟩
theorem contains_ok {xs : List Int} (hx : xs.length ≤ 1000000) (v : Int) : s13 xs v = some (decide (v ∈ xs)) := by
  obtain ⟨r, e, hr⟩ := index_loop hx v FUEL 0 (by omega) (by unfold FUEL; omega)
  rw [List.drop_zero] at hr
  unfold s13 s13F s44 s44F
  have e' : s44_l1 FUEL xs v (xs.length : Int) 0 = some r := by
    generalize FUEL = F at e ⊢
    exact e
  rw [e', Option.bind_some]
  congr 1
  rw [decide_eq_decide]
  exact hr
section
variable {n : Nat} (h0 : 1 ≤ n) (h1 : n ≤ 2048)
include h0 h1
theorem alloc_keeps {m : Mp} {b : List Int} (h : Kps n m b) (k : Int) : ∃ p e m', s14_v2 k n n n n (Wd n m.fr) (Wd n m.he) (Wd n m.ow) (Wd n m.wa) = some ((p, e), mt n m') ∧ Kps n m' b ∧ (e = 0 → 1 ≤ k ∧ AllIn n m.fr p k) := by
  obtain ⟨r, hr, e⟩ := alloc_eq h0 h1 m k
  rw [e]
  by_cases hk : k < 1
  · rw [if_pos hk]; exact ⟨0, 1, m, rfl, h, fun h => by cases h⟩
  · rw [if_neg hk]
    by_cases hr0 : r < 0
    · rw [if_pos hr0]; exact ⟨0, 6, m, rfl, h, fun h => by cases h⟩
    · rw [if_neg hr0]
      have ha : AllIn n m.fr r k := by
        rcases hr (by omega) with ⟨h, _⟩ | ⟨h, _⟩
        · omega
        · exact h
      exact ⟨r, 0, _, rfl, h.take (by omega) ha, fun _ => ⟨by omega, ha⟩⟩
end
theorem keeps_pages {b : List Int} (hb : b.length ≤ 1000000) {p k : Int} (hp : 0 ≤ p ∧ p ≤ 1000000) (hk : 1 ≤ k) (hno : ∀ q ∈ b, 0 ≤ q ∧ q ≤ 1000000 ∧ (p ≤ q → ¬ q - p < k)) (R : OpL → Int → Int → List Int → Int → Int → Int → Int → List Int → List Int → List Int → List Int → Option Bool) (ops : OpL) (L j d a1 a2 a3 a4 : Int) (w1 w2 w3 w4 : List Int) :
    ∀ (fuel i : Nat), i ≤ b.length → b.length - i < fuel → s3_l3 R fuel p ops L j (b.length : Int) i b d k a1 a2 a3 a4 w1 w2 w3 w4 = s3_j8 R ops L j b a1 a2 a3 a4 w1 w2 w3 w4 := by
  intro fuel
  induction fuel with
  | zero => intro i _ h; omega
  | succ fuel ih =>
    intro i hi hf
    show s3_l3B (s3_j9 (s3_l3 R fuel)) (s3_j8 R) p ops L j (b.length : Int) i b d k a1 a2 a3 a4 w1 w2 w3 w4 = _
    unfold s3_l3B
    by_cases h : i < b.length
    · have next : s3_j9 (s3_l3 R fuel) p ops L j (b.length : Int) i false b d k a1 a2 a3 a4 w1 w2 w3 w4 = s3_j8 R ops L j b a1 a2 a3 a4 w1 w2 w3 w4 := by
        unfold s3_j9 s3_j9F
        rw [if_neg (by decide), i64_in _ (by omega), show (i : Int) + 1 = ((i + 1 : Nat) : Int) by omega]
        exact ih (i + 1) (by omega) (by omega)
      rw [if_pos (by omega), if_pos ⟨by omega, by omega⟩, getI_nat, List.getElem?_eq_getElem h, Option.bind_some]
      obtain ⟨q1, q2, q3⟩ := hno _ (List.getElem_mem h)
      by_cases hq : b[i] ≥ p
      · rw [if_pos hq, i64_in _ (by omega), decide_eq_false (q3 hq)]
        exact next
      · rw [if_neg hq]
        exact next
    · rw [if_neg (by omega)]
section
variable {n : Nat} (h0 : 1 ≤ n) (h1 : n ≤ 2048)
include h0 h1
theorem keeps_loop {ops : OpL} (hL : ops.length ≤ 1000) : ∀ (fuel i : Nat) (m : Mp) (b : List Int), Kps n m b → i ≤ ops.length → ops.length - i < fuel →
    s3_l2 fuel ops (ops.length : Int) i b n n n n (Wd n m.fr) (Wd n m.he) (Wd n m.ow) (Wd n m.wa) = some true := by
  intro fuel
  induction fuel with
  | zero => intro i _ _ _ _ h; omega
  | succ fuel ih =>
    intro i m b h hi hf
    have hb : b.length ≤ 2048 := by rw [h.beg]; have := castL_len (n := n) (f := fun q => !m.wa q); omega
    show s3_l2B (s3_j7 (s3_l2 fuel)) (s3_l3 (s3_l2 fuel) FUEL) (s3_j8 (s3_l2 fuel)) ops (ops.length : Int) i b n n n n (Wd n m.fr) (Wd n m.he) (Wd n m.ow) (Wd n m.wa) = _
    have pages := fun {p k : Int} hp hk hno => keeps_pages (b := b) (by omega) (p := p) (k := k) hp hk hno (s3_l2 fuel) ops (ops.length : Int) i
    have pages' := fun {p k : Int} (hp : 0 ≤ p ∧ p ≤ 1000000) (hk : 1 ≤ k) hno d a1 a2 a3 a4 w1 w2 w3 w4 => pages (p := p) (k := k) hp hk hno d a1 a2 a3 a4 w1 w2 w3 w4 FUEL 0 (by omega) (by unfold FUEL; omega)
    generalize s3_l3 (s3_l2 fuel) FUEL = Q at pages' ⊢
    unfold s3_l2B
    by_cases hlt : i < ops.length
    · have fin : ∀ (m' : Mp) (b' : List Int), Kps n m' b' → s3_j8 (s3_l2 fuel) ops (ops.length : Int) i b' n n n n (Wd n m'.fr) (Wd n m'.he) (Wd n m'.ow) (Wd n m'.wa) = some true := fun m' b' h' => by
        unfold s3_j8 s3_j8F
        rw [i64_in _ (by omega), show (i : Int) + 1 = ((i + 1 : Nat) : Int) by omega]
        exact ih (i + 1) m' b' h' (by omega) (by omega)
      rw [if_pos (by omega), getI_nat, List.getElem?_eq_getElem hlt, Option.bind_some]
      by_cases d0 : ops[i].Do = 0
      · rw [if_pos d0, alloc1_eq h0 h1]
        obtain ⟨p, e, m', e1, h', hA⟩ := alloc_keeps h0 h1 h 1
        rw [e1]
        simp only [Option.bind_some]
        by_cases he : e = 0
        · rw [if_pos he, contains_ok (by omega), Option.bind_some]
          obtain ⟨_, a1, a2, a3⟩ := hA he
          have hno : ¬ p ∈ b := by
            have := h.out (q := p.toNat) (by omega) (a3 p.toNat (by omega) (by omega))
            rw [show ((p.toNat : Nat) : Int) = p by omega] at this
            exact this
          rw [decide_eq_false hno]
          unfold s3_j7 s3_j7F
          rw [if_neg (by decide)]
          exact fin m' b h'
        · rw [if_neg he]
          unfold s3_j7 s3_j7F
          rw [if_neg (by decide)]
          exact fin m' b h'
      · rw [if_neg d0]
        by_cases d1 : ops[i].Do = 1
        · rw [if_pos d1]
          obtain ⟨p, e, m', e1, h', hA⟩ := alloc_keeps h0 h1 h ops[i].N
          rw [e1]
          simp only [Option.bind_some]
          by_cases he : e = 0
          · rw [if_pos he]
            obtain ⟨hk, a1, a2, a3⟩ := hA he
            have := pages' (p := p) (k := ops[i].N) ⟨a1, by omega⟩ hk (fun q hq => by
              have hq' := hq
              rw [h.beg, mem_castL] at hq'
              obtain ⟨z, e, _, hz, _⟩ := hq'
              refine ⟨by omega, by omega, fun hp hlt => ?_⟩
              rw [e] at hq
              exact h.out hz (a3 z (by omega) (by omega)) hq) ops[i].Do n n n n (Wd n m'.fr) (Wd n m'.he) (Wd n m'.ow) (Wd n m'.wa)
            rw [show ((0 : Nat) : Int) = 0 from rfl] at this
            rw [this]
            exact fin m' b h'
          · rw [if_neg he]
            exact fin m' b h'
        · rw [if_neg d1]
          by_cases d2 : ops[i].Do = 2
          · rw [if_pos d2, free_eq h0 h1]
            by_cases hp : hasP n m ops[i].N
            · rw [if_pos hp]
              simp only [Option.bind_some]
              exact fin _ b (h.free hp)
            · rw [if_neg hp]
              simp only [Option.bind_some]
              exact fin m b h
          · rw [if_neg d2]
            by_cases d3 : ops[i].Do = 3
            · rw [if_pos d3, commit_eq h0 h1]
              simp only [Option.bind_some]
              have t := taken_eq h0 h1 (newM fun q => m.fr q || m.he q)
              rw [tk_new] at t
              have t' : s17 (n : Int) n n n (Wd n fun q => m.fr q || m.he q) (Wd n no) (Wd n no) (Wd n fun q => m.fr q || m.he q) = _ := t
              rw [t']
              simp only [Option.bind_some]
              exact fin (newM fun q => m.fr q || m.he q) _ (Kps.new n _)
            · rw [if_neg d3]
              by_cases d4 : ops[i].Do = 4
              · rw [if_pos d4, abort_eq h0 h1]
                simp only [Option.bind_some]
                have t := taken_eq h0 h1 (newM m.wa)
                rw [tk_new, ← h.beg] at t
                have t' : s17 (n : Int) n n n (Wd n m.wa) (Wd n no) (Wd n no) (Wd n m.wa) = _ := t
                rw [t']
                simp only [Option.bind_some]
                rw [eq_ok (by omega), Option.bind_some, decide_eq_true rfl, if_neg (by simp)]
                refine fin (newM m.wa) _ ?_
                have := Kps.new n m.wa
                rw [← h.beg] at this
                exact this
              · rw [if_neg d4]
                exact fin m b h
    · rw [if_neg (by omega)]
end
theorem Pure.FreemapKeeps (n : Int) (xs : List Int) (ops : OpL) (h2 : (Lit.int .i64 n).wf = true) (h3 : xs.length ≤ 9223372036854775807 ∧ ∀ x ∈ xs, (Lit.int .i64 x).wf = true) (h4 : ops.length ≤ 9223372036854775807 ∧ ∀ o ∈ ops, (Lit.int .i64 o.Do).wf = true ∧ (Lit.int .i64 o.N).wf = true) : s3 n xs ops = some true := by
  unfold s3 s3F
  rw [s9_ok, Option.bind_some, if_neg (by simp)]
  unfold s3_j1 s3_j1F
  by_cases hx : xs.length > 5000
  · rw [decide_eq_true (by omega), if_pos rfl, s9_ok]; rfl
  · rw [decide_eq_false (by omega), if_neg (by decide), open_eq n (by omega), Option.bind_some]
    by_cases hm : mayP n = true ∧ Lst n (-1) xs = true
    · rw [if_pos hm]
      obtain ⟨hm1, hm2⟩ := hm
      have hn : 8 ≤ n ∧ n ≤ 2048 := of_decide_eq_true hm1
      obtain ⟨N, rfl⟩ : ∃ N : Nat, n = N := ⟨n.toNat, by omega⟩
      simp only [Option.bind_some, Int.toNat_natCast]
      unfold s3_j5 s3_j5F s3_j6
      rw [if_neg (by decide)]
      have hcut : cutI ops 0 (if (80 : Int) < (ops.length : Int) then 80 else (ops.length : Int)) = some (ops.take (min 80 ops.length)) := by
        have := min_len 80 ops
        rw [show ((80 : Nat) : Int) = 80 from rfl] at this
        rw [this]
        exact cutI_to (by omega)
      have hl : (ops.take (min 80 ops.length)).length ≤ 80 := by rw [List.length_take]; omega
      generalize ops.take (min 80 ops.length) = os at hcut hl
      have hi : Kps N (m0 xs) xs := by
        refine ⟨fun _ _ h => h, fun _ _ h => (by cases h), ?_⟩
        rw [← tk_m0]
        exact (taken0 hm2).symm
      have := keeps_loop (n := N) (by omega) (by omega) (ops := os) (by omega) FUEL 0 (m0 xs) xs hi (by omega) (by unfold FUEL; omega)
      generalize s3_l2 FUEL = Q at this ⊢
      unfold s3_j6F
      rw [if_neg (by decide), clone_l (by omega)]
      simp only [Option.bind_some]
      rw [hcut, Option.bind_some]
      exact this
    · rw [if_neg hm]
      rfl
end Go.Proofs.YtofhmhbffdoiaaaDoor
