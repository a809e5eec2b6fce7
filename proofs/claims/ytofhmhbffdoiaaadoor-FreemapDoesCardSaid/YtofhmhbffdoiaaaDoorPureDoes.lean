/- FreemapDoes, the plain law: both maps answer the same, whatever is asked. -/
import Derived.Test.YtofhmhbffdoiaaaDoorDB
namespace Go.Proofs.YtofhmhbffdoiaaaDoor
open Go Go.SX Go.VX
set_option maxRecDepth 100000
set_option linter.unusedVariables false
set_option linter.unusedSimpArgs false
abbrev dt2 (n : Nat) (m : Mp) (p : List Int) (w : Nat → Bool) : (Unit × Unit × Unit × Unit) × Unit × (Int × Unit) × (Int × Unit) × (Int × Unit) × (Int × Unit) × List Int × List Int × List Int × List Int × List Int × (Int × Unit) × (Int × Unit) × (Int × Unit) × List Int × List Int × List Int :=
  (((), (), (), ()), (), ((n : Int), ()), ((n : Int), ()), ((n : Int), ()), ((n : Int), ()), p, Wd n m.fr, Wd n m.he, Wd n m.ow, Wd n m.wa, ((n : Int), ()), ((n : Int), ()), ((n : Int), ()), Wd n no, Wd n no, Wd n w)
section
variable {n : Nat} (h0 : 1 ≤ n) (h1 : n ≤ 2048)
include h0 h1
theorem does_eq {m : Mp} (d : DI n m) (o : T_incipitlaw08_Op) (ho : o.N ≤ 9223372036854775807) :
    (∃ m', DI n m' ∧ s35_v2 o n n n n (Pl n (cls m)) (Wd n m.fr) (Wd n m.he) (Wd n m.ow) (Wd n m.wa) = some (.inl (true, dt n m'))) ∨
    s35_v2 o n n n n (Pl n (cls m)) (Wd n m.fr) (Wd n m.he) (Wd n m.ow) (Wd n m.wa) = some (.inr (.inl (true, dt2 n ⟨fun q => m.fr q || m.he q, m.he, m.ow, m.wa⟩ (Pl n (cls (newM fun q => m.fr q || m.he q))) (fun q => m.fr q || m.he q)))) ∨
    s35_v2 o n n n n (Pl n (cls m)) (Wd n m.fr) (Wd n m.he) (Wd n m.ow) (Wd n m.wa) = some (.inr (.inr (true, dt2 n m (Pl n (cls (newM m.wa))) m.wa))) := by
  unfold s35_v2 s35_v2F
  by_cases d0 : o.Do = 0
  · refine .inl ?_
    rw [if_pos d0, alloc1_eq h0 h1]
    obtain ⟨a, b, m', d', e1, e2⟩ := alloc_both h0 h1 d 1 (by omega)
    refine ⟨m', d', ?_⟩
    rw [e1]
    simp only [Option.bind_some]
    unfold s57_v2 s57_v2F
    rw [e2]
    simp only [Option.bind_some]
    rw [if_pos trivial, decide_eq_true trivial]
  · rw [if_neg d0]
    by_cases d1 : o.Do = 1
    · refine .inl ?_
      rw [if_pos d1]
      obtain ⟨a, b, m', d', e1, e2⟩ := alloc_both h0 h1 d o.N ho
      refine ⟨m', d', ?_⟩
      rw [e1]
      simp only [Option.bind_some]
      rw [e2]
      simp only [Option.bind_some]
      rw [if_pos trivial, decide_eq_true trivial]
    · rw [if_neg d1]
      by_cases d2 : o.Do = 2
      · refine .inl ?_
        rw [if_pos d2, free_eq h0 h1]
        have e := ref_free (n := n) (cls m) o.N
        have hi : (0 ≤ o.N ∧ o.N < n ∧ (cls m o.N.toNat = 1 ∨ cls m o.N.toNat = 2)) ↔ hasP n m o.N := by unfold hasP; rw [cls_tk]
        by_cases hp : hasP n m o.N
        · rw [if_pos (hi.2 hp), ← cls_free d hp] at e
          refine ⟨freeM m o.N.toNat, d.free hp, ?_⟩
          rw [if_pos hp]
          simp only [Option.bind_some]
          rw [e]
          simp only [Option.bind_some]
          rw [decide_eq_true trivial]
        · rw [if_neg (fun h => hp (hi.1 h))] at e
          refine ⟨m, d, ?_⟩
          rw [if_neg hp]
          simp only [Option.bind_some]
          rw [e]
          simp only [Option.bind_some]
          rw [decide_eq_true trivial]
      · rw [if_neg d2]
        by_cases d3 : o.Do = 3
        · refine .inr (.inl ?_)
          rw [if_pos d3, ref_commit h1 (cls m), ← cls_commit d]
          simp only [Option.bind_some]
          rw [commit_eq h0 h1]
          rfl
        · rw [if_neg d3]
          by_cases d4 : o.Do = 4
          · refine .inr (.inr ?_)
            rw [if_pos d4, ref_abort h1 (cls m), ← cls_abort d]
            simp only [Option.bind_some]
            rw [abort_eq h0 h1]
            rfl
          · rw [if_neg d4]
            exact .inl ⟨m, d, rfl⟩
theorem does_loop {ops : OpL} (hL : ops.length ≤ 1000) (ho : ∀ o ∈ ops, o.N ≤ 9223372036854775807) : ∀ (fuel i : Nat) (m : Mp), DI n m → i ≤ ops.length → ops.length - i < fuel →
    s7_l2 fuel ops (ops.length : Int) i n n n n (Pl n (cls m)) (Wd n m.fr) (Wd n m.he) (Wd n m.ow) (Wd n m.wa) = some true := by
  intro fuel
  induction fuel with
  | zero => intro i _ _ _ h; omega
  | succ fuel ih =>
    intro i m d hi hf
    show s7_l2B (s7_j12 (s7_l2 fuel)) ops (ops.length : Int) i n n n n (Pl n (cls m)) (Wd n m.fr) (Wd n m.he) (Wd n m.ow) (Wd n m.wa) = _
    unfold s7_l2B
    by_cases hlt : i < ops.length
    · have fin : ∀ (m' : Mp) (D N : Int), DI n m' → s7_j12 (s7_l2 fuel) ops (ops.length : Int) i false D N n n n n (Pl n (cls m')) (Wd n m'.fr) (Wd n m'.he) (Wd n m'.ow) (Wd n m'.wa) = some true := fun m' D N d' => by
        have next : s7_j13 (s7_l2 fuel) ops (ops.length : Int) i n n n n (Pl n (cls m')) (Wd n m'.fr) (Wd n m'.he) (Wd n m'.ow) (Wd n m'.wa) = some true := by
          unfold s7_j13 s7_j13F
          rw [i64_in _ (by omega), show (i : Int) + 1 = ((i + 1 : Nat) : Int) by omega]
          exact ih (i + 1) m' d' (by omega) (by omega)
        unfold s7_j12 s7_j12F
        rw [if_neg (by decide)]
        by_cases h5 : D ≠ 5
        · rw [if_pos h5]
          exact next
        · rw [if_neg h5, clone_map h0 h1]
          simp only [Option.bind_some]
          rw [alloc1_eq h0 h1]
          obtain ⟨r, _, e⟩ := alloc_eq h0 h1 m' 1
          have hm : ∃ (p : Int × Int) (m2 : Mp), s14_v2 1 n n n n (Wd n m'.fr) (Wd n m'.he) (Wd n m'.ow) (Wd n m'.wa) = some (p, mt n m2) := by
            rw [e, if_neg (by decide)]
            by_cases hr : r < 0
            · rw [if_pos hr]; exact ⟨_, m', rfl⟩
            · rw [if_neg hr]; exact ⟨_, _, rfl⟩
          obtain ⟨p, m2, e2⟩ := hm
          rw [e2]
          simp only [Option.bind_some]
          have hm3 : ∃ (p : Int) (m3 : Mp), s15 N n n n n (Wd n m2.fr) (Wd n m2.he) (Wd n m2.ow) (Wd n m2.wa) = some (p, mt n m3) := by
            rw [free_eq h0 h1]
            by_cases hp : hasP n m2 N
            · rw [if_pos hp]; exact ⟨_, _, rfl⟩
            · rw [if_neg hp]; exact ⟨_, _, rfl⟩
          obtain ⟨p3, m3, e3⟩ := hm3
          rw [e3]
          simp only [Option.bind_some]
          rw [abort_eq h0 h1]
          simp only [Option.bind_some]
          exact next
      rw [if_pos (by omega), getI_nat, List.getElem?_eq_getElem hlt, Option.bind_some]
      rcases does_eq h0 h1 d ops[i] (ho _ (List.getElem_mem hlt)) with ⟨m', d', e⟩ | e | e
      · rw [e]
        simp only [Option.bind_some]
        rw [if_neg (by simp), same_all h0 h1 d']
        simp only [Option.bind_some]
        exact fin m' _ _ d'
      · rw [e]
        simp only [Option.bind_some]
        have s := same_all h0 h1 (DI.new n fun q => m.fr q || m.he q)
        have s' : s36_v2 (n : Int) n n n (Pl n (cls (newM fun q => m.fr q || m.he q))) (Wd n fun q => m.fr q || m.he q) (Wd n no) (Wd n no) (Wd n fun q => m.fr q || m.he q) = _ := s
        rw [if_neg (by simp), s']
        simp only [Option.bind_some]
        exact fin (newM fun q => m.fr q || m.he q) _ _ (DI.new n _)
      · rw [e]
        simp only [Option.bind_some]
        have s := same_all h0 h1 (DI.new n m.wa)
        have s' : s36_v2 (n : Int) n n n (Pl n (cls (newM m.wa))) (Wd n m.wa) (Wd n no) (Wd n no) (Wd n m.wa) = _ := s
        rw [if_neg (by simp), s']
        simp only [Option.bind_some]
        exact fin (newM m.wa) _ _ (DI.new n _)
    · rw [if_neg (by omega), same_all h0 h1 d]
      rfl
end
theorem ref_open_loop {n : Nat} {xs : List Int} (hx : xs.length ≤ 1000000) (hp : ∀ x ∈ xs, 0 ≤ x ∧ x < n) : ∀ (fuel i : Nat), i ≤ xs.length → xs.length - i < fuel →
    s34_l1 fuel xs i (Pl n (fun q => if (q : Int) ∈ xs.take i then 1 else 0)) = some (.inr (((), ()), ((), Pl n (cls (m0 xs))))) := by
  intro fuel
  induction fuel with
  | zero => intro i _ h; omega
  | succ fuel ih =>
    intro i hi hf
    show s34_l1B (s34_l1 fuel) xs i (Pl n (fun q => if (q : Int) ∈ xs.take i then 1 else 0)) = _
    unfold s34_l1B
    rw [Pl_len]
    by_cases h : i < xs.length
    · obtain ⟨a, b⟩ := hp _ (List.getElem_mem h)
      obtain ⟨q, hq⟩ : ∃ q : Nat, xs[i] = q := ⟨xs[i].toNat, by omega⟩
      rw [if_pos (by omega), getI_nat, List.getElem?_eq_getElem h, Option.bind_some, hq, if_pos ⟨by omega, by omega⟩, Pl_setI (by omega), Option.bind_some, i64_in _ (by omega), show (i : Int) + 1 = ((i + 1 : Nat) : Int) by omega]
      have e : Pl n (updc (fun q => if (q : Int) ∈ xs.take i then 1 else 0) q 1) = Pl n (fun q => if (q : Int) ∈ xs.take (i + 1) then 1 else 0) := Pl_congr fun z _ => by
        unfold updc
        simp only [← List.take_append_getElem h, List.mem_append, List.mem_singleton, hq]
        by_cases hz : z = q
        · rw [if_pos hz, if_pos (.inr (by omega))]
        · rw [if_neg hz]
          by_cases hm : (z : Int) ∈ xs.take i
          · rw [if_pos hm, if_pos (.inl hm)]
          · rw [if_neg hm, if_neg (fun h => h.elim hm (fun h => hz (by omega)))]
      rw [e]
      exact ih (i + 1) (by omega) (by omega)
    · rw [if_neg (by omega)]
      have e : Pl n (fun q => if (q : Int) ∈ xs.take i then 1 else 0) = Pl n (cls (m0 xs)) := Pl_congr fun q _ => by
        rw [List.take_of_length_le (by omega)]
        show _ = cl (!decide ((q : Int) ∈ xs)) false false
        by_cases hm : (q : Int) ∈ xs
        · rw [if_pos hm, decide_eq_true hm]; rfl
        · rw [if_neg hm, decide_eq_false hm]; rfl
      rw [e]
theorem ref_open (n : Int) {xs : List Int} (hx : xs.length ≤ 1000000) : s34 n xs = some (if mayP n = true ∧ Lst n (-1) xs = true then .inr (((), ()), ((), Pl n.toNat (cls (m0 xs)))) else .inl ((), ())) := by
  unfold s34 s34F
  rw [may2_ok, Option.bind_some]
  cases hm : mayP n with
  | false => rw [if_pos (by simp), if_neg (by simp)]; rfl
  | true =>
    rw [if_neg (by simp), lst2_ok n hx, Option.bind_some]
    unfold s34_j1 s34_j1F
    cases hl : Lst n (-1) xs with
    | false => rw [decide_eq_true (by simp), if_pos rfl, if_neg (by simp)]
    | true =>
      rw [decide_eq_false (by simp), if_neg (by decide), if_pos ⟨rfl, rfl⟩]
      have hn : 8 ≤ n ∧ n ≤ 2048 := of_decide_eq_true hm
      obtain ⟨N, rfl⟩ : ∃ N : Nat, n = N := ⟨n.toNat, by omega⟩
      rw [repI_nat (by omega), Option.bind_some]
      have := ref_open_loop (n := N) hx (fun x h => Lst.lt hl (by omega) x h) FUEL 0 (by omega) (by unfold FUEL; omega)
      have e : Pl N (fun q => if (q : Int) ∈ xs.take 0 then 1 else 0) = List.replicate N 0 := by
        unfold Pl
        rw [List.take_zero]
        refine List.eq_replicate_iff.2 ⟨by simp, fun b hb => ?_⟩
        obtain ⟨q, _, rfl⟩ := List.mem_map.1 hb
        rw [if_neg (by simp)]
      rw [e] at this
      generalize FUEL = F at this ⊢
      exact this
theorem DI.zero (n : Nat) (xs : List Int) : DI n (m0 xs) := ⟨fun _ _ _ => rfl, fun _ _ _ => rfl, fun _ _ _ => rfl, fun q _ => by show _ = (_ || false); rw [Bool.or_false]; rfl⟩
theorem Pure.FreemapDoes (n : Int) (xs : List Int) (ops : OpL) (h2 : (Lit.int .i64 n).wf = true) (h3 : xs.length ≤ 9223372036854775807 ∧ ∀ x ∈ xs, (Lit.int .i64 x).wf = true) (h4 : ops.length ≤ 9223372036854775807 ∧ ∀ o ∈ ops, (Lit.int .i64 o.Do).wf = true ∧ (Lit.int .i64 o.N).wf = true) : s7 n xs ops = some true := by
  unfold s7 s7F
  rw [s9_ok, Option.bind_some, if_neg (by simp)]
  unfold s7_j1 s7_j1F
  by_cases hx : xs.length > 5000
  · rw [decide_eq_true (by omega), if_pos rfl, s9_ok]; rfl
  · rw [decide_eq_false (by omega), if_neg (by decide), clone_l (by omega)]
    simp only [Option.bind_some]
    rw [open_eq n (by omega), Option.bind_some]
    have ro := ref_open n (xs := xs) (by omega)
    by_cases hm : mayP n = true ∧ Lst n (-1) xs = true
    · rw [if_pos hm] at ro ⊢
      obtain ⟨hm1, hm2⟩ := hm
      have hn : 8 ≤ n ∧ n ≤ 2048 := of_decide_eq_true hm1
      obtain ⟨N, rfl⟩ : ∃ N : Nat, n = N := ⟨n.toNat, by omega⟩
      rw [Int.toNat_natCast] at ro ⊢
      simp only [Option.bind_some]
      unfold s7_j7 s7_j7F
      rw [ro]
      simp only [Option.bind_some]
      unfold s7_j10 s7_j10F s7_j11
      rw [if_neg (by decide), decide_eq_false (by decide)]
      have hcut : cutI ops 0 (if (60 : Int) < (ops.length : Int) then 60 else (ops.length : Int)) = some (ops.take (min 60 ops.length)) := by
        have := min_len 60 ops
        rw [show ((60 : Nat) : Int) = 60 from rfl] at this
        rw [this]
        exact cutI_to (by omega)
      have hl : (ops.take (min 60 ops.length)).length ≤ 60 := by rw [List.length_take]; omega
      have hN : ∀ o ∈ ops.take (min 60 ops.length), o.N ≤ 9223372036854775807 := fun o h => by
        have := wf_i64 (h4.2 o (List.mem_of_mem_take h)).2
        omega
      generalize ops.take (min 60 ops.length) = os at hcut hl hN
      have := does_loop (n := N) (by omega) (by omega) (ops := os) (by omega) hN FUEL 0 (m0 xs) (DI.zero N xs) (by omega) (by unfold FUEL; omega)
      generalize s7_l2 FUEL = Q at this ⊢
      unfold s7_j11F
      rw [if_neg (by decide), hcut, Option.bind_some]
      exact this
    · rw [if_neg hm] at ro ⊢
      simp only
      unfold s7_j2 s7_j2F
      rw [ro]
      rfl
end Go.Proofs.YtofhmhbffdoiaaaDoor
