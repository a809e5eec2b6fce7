/- FreemapParts, the plain law: what holds of a map whatever is done with it. -/
import Derived.Test.YtofhmhbffdoiaaaDoorSI
namespace Go.Proofs.YtofhmhbffdoiaaaDoor
open Go Go.SX Go.VX
set_option maxRecDepth 100000
set_option linter.unusedVariables false
set_option linter.unusedSimpArgs false
structure Inv (n : Nat) (m : Mp) (b : List Int) : Prop where
  dis : ∀ q, q < n → m.fr q = true → m.he q = false
  own : ∀ q, q < n → m.fr q = true → m.ow q = false
  beg : b = castL (pgs n (fun q => !m.wa q) 0)
theorem Inv.take {n : Nat} {m : Mp} {b : List Int} (h : Inv n m b) (p k : Nat) : Inv n (takeM m p k) b := by
  refine ⟨fun q hq hf => ?_, fun q hq hf => ?_, h.beg⟩
  · unfold takeM at hf ⊢
    simp only [Bool.and_eq_true] at hf
    exact h.dis q hq hf.1
  · unfold takeM at hf ⊢
    simp only [Bool.and_eq_true, Bool.not_eq_true'] at hf
    simp only
    rw [h.own q hq hf.1, hf.2]; rfl
theorem Inv.free {n : Nat} {m : Mp} {b : List Int} (h : Inv n m b) {p : Int} (hp : hasP n m p) : Inv n (freeM m p.toNat) b := by
  obtain ⟨a, c, d, e⟩ := hp
  unfold freeM
  by_cases ho : m.ow p.toNat = true
  · rw [if_pos ho]
    refine ⟨fun q hq hf => ?_, fun q hq hf => ?_, h.beg⟩
    · simp only [upd] at hf ⊢
      by_cases hqp : q = p.toNat
      · rw [hqp]; exact e
      · rw [if_neg hqp] at hf; exact h.dis q hq hf
    · simp only [upd] at hf ⊢
      by_cases hqp : q = p.toNat
      · rw [if_pos hqp]
      · rw [if_neg hqp] at hf ⊢; exact h.own q hq hf
  · rw [if_neg ho]
    refine ⟨fun q hq hf => ?_, fun q hq hf => ?_, h.beg⟩
    · simp only [upd] at hf ⊢
      by_cases hqp : q = p.toNat
      · rw [hqp, d] at hf; cases hf
      · rw [if_neg hqp]; exact h.dis q hq hf
    · simp only [upd] at hf ⊢
      by_cases hqp : q = p.toNat
      · rw [if_pos hqp]
      · rw [if_neg hqp]; exact h.own q hq hf
/-- What a map is when it is told anew. -/
def newM (f : Nat → Bool) : Mp := ⟨f, no, no, f⟩
theorem Inv.new (n : Nat) (f : Nat → Bool) : Inv n (newM f) (castL (pgs n (fun q => !f q) 0)) := ⟨fun _ _ _ => rfl, fun _ _ _ => rfl, rfl⟩
theorem tk_new (f : Nat → Bool) : tk (newM f) = fun q => !f q := by
  funext q
  unfold tk newM no
  simp
theorem tk_or (m : Mp) : tk m = fun q => !(m.fr q || m.he q) := by
  funext q
  unfold tk
  rw [Bool.not_or]
theorem count3 {f h : Nat → Bool} : ∀ (l : List Nat), (∀ q ∈ l, f q = true → h q = false) → (l.filter fun q => !f q && !h q).length + l.countP h + l.countP f = l.length
  | [], _ => rfl
  | q :: l, hl => by
    have ih := count3 l fun x hx => hl x (List.mem_cons_of_mem _ hx)
    have h1 := hl q (List.mem_cons_self ..)
    rw [List.filter_cons, List.countP_cons, List.countP_cons, List.length_cons]
    cases hf : f q with
    | true => rw [h1 hf]; simp; omega
    | false => cases hh : h q <;> simp <;> omega
theorem count_all {n : Nat} {m : Mp} {b : List Int} (h : Inv n m b) : (castL (pgs n (tk m) 0)).length + (List.range n).countP m.he + (List.range n).countP m.fr = n := by
  have := count3 (f := m.fr) (h := m.he) (List.range n) fun q hq hf => h.dis q (List.mem_range.1 hq) hf
  rw [List.length_range] at this
  unfold castL
  rw [List.length_map, pgs_zero]
  exact this
theorem castL_len {n : Nat} {f : Nat → Bool} : (castL (pgs n f 0)).length ≤ n := by
  unfold castL
  rw [List.length_map]
  exact pgs_len
abbrev OpL := List T_incipitlaw08_Op
section
variable {n : Nat} (h0 : 1 ≤ n) (h1 : n ≤ 2048)
include h0 h1
theorem parts_pages {m : Mp} {b : List Int} (h : Inv n m b) (R : Int → OpL → Int → Int → List Int → Int → Int → Int → Int → List Int → List Int → List Int → List Int → Option Bool) (ops : OpL) (L k : Int) :
    ∀ (fuel i : Nat), i ≤ (castL (pgs n m.fr 0)).length → (castL (pgs n m.fr 0)).length - i < fuel →
      s6_l4 R fuel n ops L k ((castL (pgs n m.fr 0)).length : Int) i b (castL (pgs n m.fr 0)) n n n n (Wd n m.fr) (Wd n m.he) (Wd n m.ow) (Wd n m.wa) = R n ops L (IntKind.i64.wrap (k + 1)) b n n n n (Wd n m.fr) (Wd n m.he) (Wd n m.ow) (Wd n m.wa) := by
  have hlen := castL_len (n := n) (f := m.fr)
  intro fuel
  induction fuel with
  | zero => intro i _ h; omega
  | succ fuel ih =>
    intro i hi hf
    show s6_l4B (s6_j9 (s6_l4 R fuel)) R n ops L k ((castL (pgs n m.fr 0)).length : Int) i b (castL (pgs n m.fr 0)) n n n n (Wd n m.fr) (Wd n m.he) (Wd n m.ow) (Wd n m.wa) = _
    unfold s6_l4B
    by_cases hlt : i < (castL (pgs n m.fr 0)).length
    · obtain ⟨q, hq, _, hqn, hfq⟩ := mem_castL.1 (List.getElem_mem hlt)
      rw [if_pos (by omega), if_pos ⟨by omega, by omega⟩, getI_nat, List.getElem?_eq_getElem hlt, hq, Option.bind_some, mhas_eq h0 h1]
      simp only [Option.bind_some]
      rw [decide_eq_false (by rw [Int.toNat_natCast, hfq]; simp), if_pos rfl, mine_eq h0 h1]
      simp only [Option.bind_some]
      rw [decide_eq_false (by rw [Int.toNat_natCast, h.own q hqn hfq]; simp), if_pos rfl, if_neg (by omega), decide_eq_false (by omega)]
      unfold s6_j9 s6_j9F
      rw [if_neg (by decide), i64_in _ (by omega), show (i : Int) + 1 = ((i + 1 : Nat) : Int) by omega]
      exact ih (i + 1) (by omega) (by omega)
    · rw [if_neg (by omega)]
theorem parts_end {m : Mp} {b : List Int} (h : Inv n m b) (R : Int → OpL → Int → Int → List Int → Int → Int → Int → Int → List Int → List Int → List Int → List Int → Option Bool) (ops : OpL) (L k : Int) :
    s6_j8 R n ops L k b n n n n (Wd n m.fr) (Wd n m.he) (Wd n m.ow) (Wd n m.wa) = R n ops L (IntKind.i64.wrap (k + 1)) b n n n n (Wd n m.fr) (Wd n m.he) (Wd n m.ow) (Wd n m.wa) := by
  have hc := count_all h
  have hlen := castL_len (n := n) (f := m.fr)
  have hl := parts_pages h0 h1 h R ops L k FUEL 0 (by omega) (by unfold FUEL; omega)
  unfold s6_j8
  generalize s6_l4 R FUEL = Q at hl ⊢
  unfold s6_j8F
  rw [taken_eq h0 h1]
  simp only [Option.bind_some]
  rw [held_eq h0 h1]
  simp only [Option.bind_some]
  rw [avail_eq h0 h1]
  simp only [Option.bind_some]
  rw [i64_in (((castL (pgs n (tk m) 0)).length : Int) + ((List.range n).countP m.he : Nat)) (by omega), i64_in _ (by omega), if_neg (by omega)]
  have e : s31 (n : Int) n n n (Wd n m.fr) (Wd n m.he) (Wd n m.ow) (Wd n m.wa) = some (((), ()), (((), (), (), ()), ((n : Int), ()), ((n : Int), ()), ((n : Int), ()), ((n : Int), ()), Wd n m.fr, Wd n m.he, Wd n m.ow, Wd n m.wa, ())) := rfl
  rw [e]
  simp only [Option.bind_some]
  have e2 := told_eq h0 h1 m 1048576
  rw [show ((1048576 : Nat) : Int) = 1048576 from rfl, List.take_of_length_le (by omega)] at e2
  rw [e2]
  simp only [Option.bind_some]
  exact hl
theorem parts_loop {ops : OpL} (hL : ops.length ≤ 1000) : ∀ (fuel i : Nat) (m : Mp) (b : List Int), Inv n m b → i ≤ ops.length → ops.length - i < fuel →
    s6_l3 fuel n ops (ops.length : Int) i b n n n n (Wd n m.fr) (Wd n m.he) (Wd n m.ow) (Wd n m.wa) = some true := by
  intro fuel
  induction fuel with
  | zero => intro i _ _ _ _ h; omega
  | succ fuel ih =>
    intro i m b h hi hf
    show s6_l3B (s6_j8 (s6_l3 fuel)) (s6_j10 (s6_l3 fuel)) (s6_j11 (s6_l3 fuel)) n ops (ops.length : Int) i b n n n n (Wd n m.fr) (Wd n m.he) (Wd n m.ow) (Wd n m.wa) = _
    unfold s6_l3B
    by_cases hlt : i < ops.length
    · have fin : ∀ (m' : Mp) (b' : List Int), Inv n m' b' → s6_j8 (s6_l3 fuel) n ops (ops.length : Int) i b' n n n n (Wd n m'.fr) (Wd n m'.he) (Wd n m'.ow) (Wd n m'.wa) = some true := fun m' b' h' => by
        rw [parts_end h0 h1 h', i64_in _ (by omega), show (i : Int) + 1 = ((i + 1 : Nat) : Int) by omega]
        exact ih (i + 1) m' b' h' (by omega) (by omega)
      have alloc : ∀ k : Int, ∃ y, s14_v2 k n n n n (Wd n m.fr) (Wd n m.he) (Wd n m.ow) (Wd n m.wa) = some y ∧ ∃ m', y.2 = mt n m' ∧ Inv n m' b := fun k => by
        obtain ⟨r, _, e⟩ := alloc_eq h0 h1 m k
        refine ⟨_, e, ?_⟩
        by_cases hk : k < 1
        · rw [if_pos hk]; exact ⟨m, rfl, h⟩
        · rw [if_neg hk]
          by_cases hr : r < 0
          · rw [if_pos hr]; exact ⟨m, rfl, h⟩
          · rw [if_neg hr]; exact ⟨_, rfl, h.take _ _⟩
      rw [if_pos (by omega), getI_nat, List.getElem?_eq_getElem hlt, Option.bind_some, taken_eq h0 h1]
      simp only [Option.bind_some]
      by_cases d0 : ops[i].Do = 0
      · rw [if_pos d0, alloc1_eq h0 h1]
        obtain ⟨⟨y1, y2⟩, e, m', e2, h'⟩ := alloc 1
        simp only at e2
        subst e2
        rw [e]
        simp only [Option.bind_some]
        exact fin m' b h'
      · rw [if_neg d0]
        by_cases d1 : ops[i].Do = 1
        · rw [if_pos d1]
          obtain ⟨⟨y1, y2⟩, e, m', e2, h'⟩ := alloc ops[i].N
          simp only at e2
          subst e2
          rw [e]
          simp only [Option.bind_some]
          exact fin m' b h'
        · rw [if_neg d1]
          by_cases d2 : ops[i].Do = 2
          · rw [if_pos d2, free_eq h0 h1]
            by_cases hp : hasP n m ops[i].N
            · rw [if_pos hp]
              simp only [Option.bind_some]
              exact fin _ b (h.free hp)
            · rw [if_neg hp]
              simp only [Option.bind_some]
              exact fin m b h
          · rw [if_neg d2]
            by_cases d3 : ops[i].Do = 3
            · rw [if_pos d3, commit_eq h0 h1]
              simp only [Option.bind_some]
              have t := taken_eq h0 h1 (newM fun q => m.fr q || m.he q)
              have e1 : castL (pgs n (tk (newM fun q => m.fr q || m.he q)) 0) = castL (pgs n (tk m) 0) := by rw [tk_new, tk_or]
              rw [e1] at t
              have t' : s17 (n : Int) n n n (Wd n fun q => m.fr q || m.he q) (Wd n no) (Wd n no) (Wd n fun q => m.fr q || m.he q) = _ := t
              rw [t']
              simp only [Option.bind_some]
              rw [eq_ok (by have := castL_len (n := n) (f := tk m); omega), Option.bind_some, decide_eq_true rfl, if_neg (by simp)]
              have hh := held_eq h0 h1 (newM fun q => m.fr q || m.he q)
              have e2 : ((List.range n).countP (newM fun q => m.fr q || m.he q).he : Nat) = 0 := by
                rw [List.countP_eq_zero]; intro q _; show ¬ (false = true); decide
              rw [e2] at hh
              rw [hh]
              simp only [Option.bind_some]
              rw [decide_eq_false (by decide)]
              unfold s6_j10 s6_j10F
              rw [if_neg (by decide)]
              refine fin (newM fun q => m.fr q || m.he q) _ ?_
              have := Inv.new n fun q => m.fr q || m.he q
              rw [tk_or]
              exact this
            · rw [if_neg d3]
              by_cases d4 : ops[i].Do = 4
              · rw [if_pos d4, abort_eq h0 h1]
                simp only [Option.bind_some]
                have t := taken_eq h0 h1 (newM m.wa)
                rw [tk_new, ← h.beg] at t
                have t' : s17 (n : Int) n n n (Wd n m.wa) (Wd n no) (Wd n no) (Wd n m.wa) = _ := t
                rw [t']
                simp only [Option.bind_some]
                have hb : b.length ≤ 2048 := by rw [h.beg]; have := castL_len (n := n) (f := fun q => !m.wa q); omega
                rw [eq_ok (by omega), Option.bind_some, decide_eq_true rfl, if_neg (by simp)]
                have hh := held_eq h0 h1 (newM m.wa)
                have e2 : ((List.range n).countP (newM m.wa).he : Nat) = 0 := by
                  rw [List.countP_eq_zero]; intro q _; show ¬ (false = true); decide
                rw [e2] at hh
                rw [hh]
                simp only [Option.bind_some]
                rw [decide_eq_false (by decide)]
                unfold s6_j11 s6_j11F
                rw [if_neg (by decide)]
                refine fin (newM m.wa) _ ?_
                have := Inv.new n m.wa
                rw [← h.beg] at this
                exact this
              · rw [if_neg d4]
                exact fin m b h
    · rw [if_neg (by omega)]
end
theorem tk_m0 (xs : List Int) : tk (m0 xs) = fun q => !(m0 xs).wa q := by
  funext q
  unfold tk m0 no
  simp
theorem min_len (N : Nat) {α : Type} (xs : List α) : (if (N : Int) < (xs.length : Int) then (N : Int) else (xs.length : Int)) = ((min N xs.length : Nat) : Int) := by
  split <;> omega
theorem Pure.FreemapParts (n : Int) (xs : List Int) (ops : OpL) (h2 : (Lit.int .i64 n).wf = true) (h3 : xs.length ≤ 9223372036854775807 ∧ ∀ x ∈ xs, (Lit.int .i64 x).wf = true) (h4 : ops.length ≤ 9223372036854775807 ∧ ∀ o ∈ ops, (Lit.int .i64 o.Do).wf = true ∧ (Lit.int .i64 o.N).wf = true) : s6 n xs ops = some true := by
  unfold s6 s6F
  rw [s9_ok, Option.bind_some, if_neg (by simp)]
  unfold s6_j1 s6_j1F
  by_cases hx : xs.length > 5000
  · rw [decide_eq_true (by omega), if_pos rfl, s9_ok]; rfl
  · rw [decide_eq_false (by omega), if_neg (by decide), open_eq n (by omega), Option.bind_some]
    by_cases hm : mayP n = true ∧ Lst n (-1) xs = true
    · rw [if_pos hm]
      obtain ⟨hm1, hm2⟩ := hm
      have hn : 8 ≤ n ∧ n ≤ 2048 := of_decide_eq_true hm1
      obtain ⟨N, rfl⟩ : ∃ N : Nat, n = N := ⟨n.toNat, by omega⟩
      simp only [Option.bind_some, Int.toNat_natCast]
      unfold s6_j6 s6_j6F s6_j7
      rw [if_neg (by decide)]
      have hcut : cutI ops 0 (if (80 : Int) < (ops.length : Int) then 80 else (ops.length : Int)) = some (ops.take (min 80 ops.length)) := by
        have := min_len 80 ops
        rw [show ((80 : Nat) : Int) = 80 from rfl] at this
        rw [this]
        exact cutI_to (by omega)
      have hl : (ops.take (min 80 ops.length)).length ≤ 80 := by rw [List.length_take]; omega
      generalize ops.take (min 80 ops.length) = os at hcut hl
      have hi : Inv N (m0 xs) xs := by
        refine ⟨fun _ _ _ => rfl, fun _ _ _ => rfl, ?_⟩
        rw [← tk_m0]
        exact (taken0 hm2).symm
      have := parts_loop (n := N) (by omega) (by omega) (ops := os) (by omega) FUEL 0 (m0 xs) xs hi (by omega) (by unfold FUEL; omega)
      generalize s6_l3 FUEL = Q at this ⊢
      unfold s6_j7F
      rw [if_neg (by decide), clone_l (by omega)]
      simp only [Option.bind_some]
      rw [hcut, Option.bind_some]
      exact this
    · rw [if_neg hm]
      rfl
end Go.Proofs.YtofhmhbffdoiaaaDoor
