/- Plain laws of the free map, part 3: what is read is put again; both answers are the same for whatever is handed in. -/
import Derived.Test.YtofhmhbffdoiaaaDoorPutsB
namespace Go.Proofs.YtofhmhbffdoiaaaDoor
open Go Go.SX Go.VX
set_option maxRecDepth 100000
set_option linter.unusedVariables false
set_option linter.unusedSimpArgs false

/-! ### Lists that are compared -/
theorem eq_loop {a b : List Int} (hl : a.length = b.length) (ha : a.length ≤ 1000000) : ∀ (m k : Nat), k ≤ a.length → a.length - k < m → s52_l1 m a b (a.length : Int) (k : Int) = some (decide (a.drop k = b.drop k)) := by
  intro m
  induction m with
  | zero => intro k _ h; omega
  | succ m ih =>
    intro k hk hm
    show s52_l1B (s52_l1 m) a b (a.length : Int) (k : Int) = _
    unfold s52_l1B
    by_cases h : k < a.length
    · have h' : k < b.length := by omega
      rw [if_pos (by omega), getI_nat, List.getElem?_eq_getElem h, Option.bind_some, getI_nat, List.getElem?_eq_getElem h', Option.bind_some, List.drop_eq_getElem_cons h, List.drop_eq_getElem_cons h']
      by_cases h1 : a[k] = b[k]
      · rw [if_neg (by simp [h1]), show (k : Int) + 1 = ((k + 1 : Nat) : Int) by omega, i64_nat (by omega), ih (k + 1) (by omega) (by omega)]
        congr 1
        rw [decide_eq_decide, h1]
        exact ⟨fun h => by rw [h], fun h => (List.cons.inj h).2⟩
      · rw [if_pos h1, decide_eq_false (fun h => h1 (List.cons.inj h).1)]
    · rw [if_neg (by omega)]
      rw [List.drop_eq_nil_of_le (by omega), List.drop_eq_nil_of_le (by omega)]
      simp
theorem eq_ok {a b : List Int} (ha : a.length ≤ 1000000) : s52 a b = some (decide (a = b)) := by
  unfold s52 s52F
  by_cases hl : a.length = b.length
  · rw [if_neg (by omega)]
    have := eq_loop hl ha FUEL 0 (by omega) (by unfold FUEL; omega)
    rw [List.drop_zero, List.drop_zero] at this
    exact this
  · rw [if_pos (by omega), decide_eq_false (fun h => hl (by rw [h]))]
theorem same_ok {a : List Int} (ha : a.length ≤ 1000000) : s19 a a = some true := by
  have := eq_ok (a := a) (b := a) ha
  rw [decide_eq_true rfl] at this
  exact this
/-! ### What was read is put again -/
def chk (n : Int) (ys : List Int) : List (List Int) → Nat → (Unit × Int) × List Int
  | [], _ => (((), 0), ys)
  | q :: r, i => if (putV n ys i).1.2 ≠ 0 then (((), 80), []) else if q = (putV n ys i).2 then chk n ys r (i + 1) else (((), 80), [])
theorem chk_bad (n : Int) (ys : List Int) : ∀ (l : List (List Int)) (i : Nat), (¬ ∀ q ∈ l, q.length = 240) → chk n ys l i = (((), 80), [])
  | [], _, h => absurd (fun _ hq => by cases hq) h
  | q :: r, i, h => by
    unfold chk
    by_cases h1 : (putV n ys i).1.2 ≠ 0
    · rw [if_pos h1]
    · rw [if_neg h1]
      by_cases h2 : q = (putV n ys i).2
      · rw [if_pos h2]
        refine chk_bad n ys r (i + 1) fun hr => h fun x hx => ?_
        rcases List.mem_cons.1 hx with rfl | hx
        · rw [h2]; exact (putV_fine (by simpa using h1)).1
        · exact hr x hx
      · rw [if_neg h2]
theorem chk_loop (n : Int) {l : List (List Int)} (hp : Pgs l) {ys : List Int} (hy : ys.length ≤ 1000000) : ∀ (m k : Nat), k ≤ l.length → l.length - k < m → s23_l2 m n l (l.length : Int) (k : Int) ys = some (chk n ys (l.drop k) k) := by
  intro m
  induction m with
  | zero => intro k _ h; omega
  | succ m ih =>
    intro k hk hm
    have hf := hp.few
    show s23_l2B (s23_j2 (s23_l2 m)) n l (l.length : Int) (k : Int) ys = _
    unfold s23_l2B
    by_cases h : k < l.length
    · have hmem : l[k] ∈ l := List.getElem_mem h
      rw [if_pos (by omega), getI_nat, List.getElem?_eq_getElem h, Option.bind_some, put_ok n hy, List.drop_eq_getElem_cons h]
      simp only [Option.bind_some]
      unfold chk
      by_cases h1 : (putV n ys (k : Int)).1.2 ≠ 0
      · rw [if_pos h1, if_pos h1]; rfl
      · rw [if_neg h1, if_neg h1, eq_ok (hp.sz _ hmem), Option.bind_some]
        unfold s23_j2 s23_j2F
        by_cases h2 : l[k] = (putV n ys (k : Int)).2
        · rw [if_pos h2, decide_eq_true h2, if_neg (by simp), show (k : Int) + 1 = ((k + 1 : Nat) : Int) by omega, i64_nat (by omega), ih (k + 1) (by omega) (by omega)]
        · rw [if_neg h2, decide_eq_false h2, if_pos (by simp)]
    · rw [if_neg (by omega)]
      obtain rfl : k = l.length := by omega
      rw [List.drop_length]; rfl
theorem chk2_loop (n : Int) {l : List (List Int)} (hp : Pgs l) {ys : List Int} (hy : ys.length ≤ 1000000) : ∀ (m k : Nat), k ≤ l.length → l.length - k < m → s25_l3 m n l (k : Int) ys = some (chk n ys (l.drop k) k) := by
  intro m
  induction m with
  | zero => intro k _ h; omega
  | succ m ih =>
    intro k hk hm
    have hf := hp.few
    show s25_l3B (s25_j2 (s25_l3 m)) n l (k : Int) ys = _
    unfold s25_l3B
    by_cases h : k < l.length
    · have hmem : l[k] ∈ l := List.getElem_mem h
      rw [if_pos (by omega), put2_ok n hy, getI_nat, List.getElem?_eq_getElem h, List.drop_eq_getElem_cons h]
      simp only [Option.bind_some]
      unfold chk
      by_cases h1 : (putV n ys (k : Int)).1.2 ≠ 0
      · rw [if_pos h1, if_pos h1]; rfl
      · rw [if_neg h1, if_neg h1]
        unfold s25_j2 s25_j2F
        have hs := str_eq (putV_fine (n := n) (xs := ys) (i := (k : Int)) (by simpa using h1)).2 (hp.b8 _ hmem)
        by_cases h2 : l[k] = (putV n ys (k : Int)).2
        · rw [if_pos h2, decide_eq_false (by rw [Ne, hs]; exact fun h => h h2.symm), if_neg (by simp), show (k : Int) + 1 = ((k + 1 : Nat) : Int) by omega, i64_nat (by omega), ih (k + 1) (by omega) (by omega)]
        · rw [if_neg h2, decide_eq_true (by rw [Ne, hs]; exact fun h => h2 h.symm), if_pos rfl]
    · rw [if_neg (by omega)]
      obtain rfl : k = l.length := by omega
      rw [List.drop_length]; rfl
theorem allB_len : ∀ (l : List (List Int)) (i : Nat), (allB l i).length ≤ 1024 * l.length
  | [], _ => by simp [allB]
  | q :: r, i => by
    have h1 := bl_len q i (nb q) 0
    have h2 := allB_len r (i + 1)
    have h3 : nb q ≤ 1024 := by unfold nb; omega
    simp only [allB, List.length_append, List.length_cons]
    omega
def getV (n : Int) (l : List (List Int)) : (Unit × Int) × List Int :=
  if mayP n = true then if (l.length : Int) = needV n then chk n (allB l 0) l 0 else (((), 80), []) else (((), 1), [])
theorem get_ok (n : Int) {l : List (List Int)} (hp : Pgs l) : s23 n l = some (getV n l) := by
  have hf := hp.few
  have hb := allB_len l 0
  unfold s23 s23F getV
  rw [may_ok, need_ok]
  simp only [Option.bind_some]
  by_cases h1 : mayP n = true
  · rw [if_neg (by simp [h1]), if_pos h1]
    by_cases h2 : (l.length : Int) = needV n
    · rw [if_neg (by simp [h2]), if_pos h2]
      have e1 := get_loop n hp FUEL 0 [] (by omega) (by unfold FUEL; omega) (by simp)
      have e2 := chk_loop n hp (ys := allB l 0) (by omega) FUEL 0 (by omega) (by unfold FUEL; omega)
      rw [List.drop_zero] at e1 e2
      exact e1.trans e2
    · rw [if_pos h2, if_neg h2]
  · rw [if_pos h1, if_neg h1]
theorem get2_ok (n : Int) {l : List (List Int)} (hp : Pgs l) : s25 n l = some (getV n l) := by
  have hf := hp.few
  have hb := allB_len l 0
  unfold s25 s25F getV
  rw [may2_ok, need2_ok]
  simp only [Option.bind_some]
  by_cases h1 : mayP n = true
  · rw [if_neg (by simp [h1]), if_pos h1]
    by_cases h2 : (l.length : Int) = needV n
    · rw [if_neg (by simp [h2]), if_pos h2]
      have e1 := get2_loop n hp FUEL 0 [] (by omega) (by unfold FUEL; omega) (by simp)
      have e2 := chk2_loop n hp (ys := allB l 0) (by omega) FUEL 0 (by omega) (by unfold FUEL; omega)
      rw [List.drop_zero] at e1 e2
      refine e1.trans ?_
      by_cases h3 : ∀ q ∈ l, q.length = 240
      · rw [if_pos h3]; exact e2
      · rw [if_neg h3, chk_bad n _ l 0 h3]
    · rw [if_pos h2, if_neg h2]
  · rw [if_pos h1, if_neg h1]
theorem chk_len (n : Int) (ys : List Int) : ∀ (l : List (List Int)) (i : Nat), (chk n ys l i).2.length ≤ ys.length
  | [], _ => Nat.le_refl _
  | q :: r, i => by
    unfold chk
    split
    · simp
    · split
      · exact chk_len n ys r (i + 1)
      · simp
theorem getV_len (n : Int) {l : List (List Int)} (hp : Pgs l) : (getV n l).2.length ≤ 1000000 := by
  have hf := hp.few
  have hb := allB_len l 0
  unfold getV
  split
  · split
    · exact Nat.le_trans (chk_len ..) (by omega)
    · simp
  · simp
theorem law_loop (n : Int) {xs : List Int} (i : Int) {l : List (List Int)} (hx : xs.length ≤ 5000) (hf : l.length ≤ 8) (hb : ∀ q ∈ l, B8 q) : ∀ (m k : Nat), k ≤ l.length → l.length - k < m → (∀ q ∈ l.take k, q.length ≤ 3000) →
    s5_l1 m n xs i l l (l.length : Int) (k : Int) = some true := by
  intro m
  induction m with
  | zero => intro k _ h; omega
  | succ m ih =>
    intro k hk hm ht
    show s5_l1B (s5_l1 m) n xs i l l (l.length : Int) (k : Int) = _
    unfold s5_l1B
    by_cases h : k < l.length
    · rw [if_pos (by omega), getI_nat, List.getElem?_eq_getElem h, Option.bind_some]
      by_cases h1 : (l[k].length : Int) > 3000
      · rw [if_pos h1]
      · rw [if_neg h1, show (k : Int) + 1 = ((k + 1 : Nat) : Int) by omega, i64_nat (by omega), ih (k + 1) (by omega) (by omega) fun q hq => by
          rw [List.take_add_one, List.getElem?_eq_getElem h] at hq
          rcases List.mem_append.1 hq with hq | hq
          · exact ht q hq
          · have : q = l[k] := by simpa using hq
            rw [this]; omega]
    · have hp : Pgs l := ⟨hf, hb, fun q hq => by
        have := ht q (by rw [List.take_of_length_le (by omega)]; exact hq)
        omega⟩
      rw [if_neg (by omega), put_ok n (by omega), put2_ok n (by omega), get_ok n hp, get2_ok n hp, need_ok, need2_ok, ]
      simp only [Option.bind_some]
      rw [same_ok (getV_len n hp)]
      simp [s27, s27F]
theorem Pure.FreemapPuts (n : Int) (xs : List Int) (i : Int) (l : List (List Int)) (h0 : (Lit.int .i64 n).wf = true) (h1 : xs.length ≤ 9223372036854775807 ∧ ∀ x ∈ xs, (Lit.int .i64 x).wf = true) (h2 : (Lit.int .i64 i).wf = true)
    (h3 : l.length ≤ 9223372036854775807 ∧ ∀ q ∈ l, q.length ≤ 9223372036854775807 ∧ ∀ x ∈ q, (Lit.int .u8 x).wf = true) : s5 n xs i l = some true := by
  unfold s5 s5F
  have e : s5_j1 n xs i l true = some true := by unfold s5_j1 s5_j1F; rw [if_pos rfl, s9_ok]; rfl
  rw [s9_ok, Option.bind_some, if_neg (by decide)]
  by_cases hx : (xs.length : Int) > 5000
  · rw [if_pos hx, e]
  · rw [if_neg hx]
    by_cases hl : (l.length : Int) > 8
    · rw [decide_eq_true hl, e]
    · rw [decide_eq_false hl]
      unfold s5_j1 s5_j1F
      rw [if_neg (by decide)]
      exact law_loop n i (by omega) (by omega) (fun q hq => B8.of_wf (h3.2 q hq).2) FUEL 0 (by omega) (by unfold FUEL; omega) (fun q hq => by cases hq)
end Go.Proofs.YtofhmhbffdoiaaaDoor
