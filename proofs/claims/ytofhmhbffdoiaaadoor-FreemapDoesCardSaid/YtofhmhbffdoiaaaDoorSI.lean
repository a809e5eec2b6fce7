/- The free map, plain laws, part 9: a map that is opened; lists of pages. -/
import Derived.Test.YtofhmhbffdoiaaaDoorSH
namespace Go.Proofs.YtofhmhbffdoiaaaDoor
open Go Go.SX Go.VX
set_option maxRecDepth 100000
set_option linter.unusedVariables false
set_option linter.unusedSimpArgs false
theorem s9_ok : s9 = some true := by kernel_rfl
def mayP (n : Int) : Bool := decide (8 ≤ n ∧ n ≤ 2048)
theorem fmay_ok (n : Int) : s38 n = some (mayP n) := by
  unfold s38 s38F mayP
  by_cases h : n ≥ 8
  · rw [if_pos h]; congr 1; rw [decide_eq_decide]; omega
  · rw [if_neg h, decide_eq_false (by omega)]
/-- A list of pages: each behind the last one, all below n. -/
def Lst (n : Int) : Int → List Int → Bool
  | _, [] => true
  | last, p :: r => if p ≤ last ∨ p ≥ n then false else Lst n p r
theorem lst_loop (n : Int) {xs : List Int} (hx : xs.length ≤ 1000000) : ∀ (m k : Nat) (last : Int), k ≤ xs.length → xs.length - k < m → s39_l1 m n last xs (xs.length : Int) (k : Int) = some (Lst n last (xs.drop k)) := by
  intro m
  induction m with
  | zero => intro k last _ h; omega
  | succ m ih =>
    intro k last hk hm
    show s39_l1B (s39_j1 (s39_l1 m)) n last xs (xs.length : Int) (k : Int) = _
    unfold s39_l1B
    by_cases h : k < xs.length
    · rw [if_pos (by omega), getI_nat, List.getElem?_eq_getElem h, Option.bind_some, List.drop_eq_getElem_cons h]
      by_cases h1 : xs[k] ≤ last
      · rw [if_pos h1]; simp [s39_j1, s39_j1F, Lst, h1]
      · rw [if_neg h1]
        unfold s39_j1 s39_j1F
        by_cases h2 : xs[k] ≥ n
        · simp [Lst, h1, h2]
        · rw [decide_eq_false h2]
          simp only [Bool.false_eq_true, if_false]
          rw [show (k : Int) + 1 = ((k + 1 : Nat) : Int) by omega, i64_nat (by omega), ih (k + 1) _ (by omega) (by omega)]
          conv => rhs; unfold Lst
          rw [if_neg (by omega)]
    · rw [if_neg (by omega)]
      obtain rfl : k = xs.length := by omega
      rw [List.drop_length]; rfl
theorem lst_ok (n : Int) {xs : List Int} (hx : xs.length ≤ 1000000) : s39 n xs = some (Lst n (-1) xs) := by
  have := lst_loop n hx FUEL 0 (-1) (by omega) (by unfold FUEL; omega)
  rw [List.drop_zero] at this
  exact this
theorem Lst.lt {n : Int} : ∀ {last : Int} {xs : List Int}, Lst n last xs = true → -1 ≤ last → ∀ x ∈ xs, 0 ≤ x ∧ x < n
  | _, [], _, _, x, hx => by cases hx
  | last, p :: r, h, hl, x, hx => by
    unfold Lst at h
    by_cases h1 : p ≤ last ∨ p ≥ n
    · rw [if_pos h1] at h; cases h
    · rw [if_neg h1] at h
      rcases List.mem_cons.1 hx with rfl | hx
      · omega
      · exact Lst.lt h (by omega) x hx
theorem asc_ext : ∀ {a b : List Int}, a.Pairwise (· < ·) → b.Pairwise (· < ·) → (∀ x, x ∈ a ↔ x ∈ b) → a = b
  | [], [], _, _, _ => rfl
  | [], y :: b, _, _, h => by cases (h y).2 (List.mem_cons_self ..)
  | x :: a, [], _, _, h => by cases (h x).1 (List.mem_cons_self ..)
  | x :: a, y :: b, ha, hb, h => by
    obtain ⟨a1, a2⟩ := List.pairwise_cons.1 ha
    obtain ⟨b1, b2⟩ := List.pairwise_cons.1 hb
    have e : x = y := by
      rcases List.mem_cons.1 ((h x).1 (List.mem_cons_self ..)) with e | m1
      · exact e
      · rcases List.mem_cons.1 ((h y).2 (List.mem_cons_self ..)) with e | m2
        · exact e.symm
        · have := a1 y m2; have := b1 x m1; omega
    subst e
    rw [asc_ext a2 b2 fun z => ⟨fun hz => by
      rcases List.mem_cons.1 ((h z).1 (List.mem_cons_of_mem _ hz)) with e | m
      · have := a1 z hz; omega
      · exact m, fun hz => by
      rcases List.mem_cons.1 ((h z).2 (List.mem_cons_of_mem _ hz)) with e | m
      · have := b1 z hz; omega
      · exact m⟩]
theorem Lst.asc {n : Int} : ∀ {last : Int} {xs : List Int}, Lst n last xs = true → xs.Pairwise (· < ·) ∧ ∀ x ∈ xs, last < x
  | _, [], _ => ⟨List.Pairwise.nil, fun _ h => by cases h⟩
  | last, p :: r, h => by
    unfold Lst at h
    by_cases h1 : p ≤ last ∨ p ≥ n
    · rw [if_pos h1] at h; cases h
    · rw [if_neg h1] at h
      obtain ⟨h2, h3⟩ := Lst.asc h
      refine ⟨List.pairwise_cons.2 ⟨h3, h2⟩, fun x hx => ?_⟩
      rcases List.mem_cons.1 hx with rfl | hx
      · omega
      · have := h3 x hx; omega
theorem eq_loop {a b : List Int} (hl : a.length = b.length) (ha : a.length ≤ 1000000) : ∀ (m k : Nat), k ≤ a.length → a.length - k < m → s19_l1 m a b (a.length : Int) (k : Int) = some (decide (a.drop k = b.drop k)) := by
  intro m
  induction m with
  | zero => intro k _ h; omega
  | succ m ih =>
    intro k hk hm
    show s19_l1B (s19_l1 m) a b (a.length : Int) (k : Int) = _
    unfold s19_l1B
    by_cases h : k < a.length
    · have h' : k < b.length := by omega
      rw [if_pos (by omega), getI_nat, List.getElem?_eq_getElem h, Option.bind_some, getI_nat, List.getElem?_eq_getElem h', Option.bind_some, List.drop_eq_getElem_cons h, List.drop_eq_getElem_cons h']
      by_cases h1 : a[k] = b[k]
      · rw [if_neg (by simp [h1]), show (k : Int) + 1 = ((k + 1 : Nat) : Int) by omega, i64_nat (by omega), ih (k + 1) (by omega) (by omega)]
        congr 1
        rw [decide_eq_decide, h1]
        exact ⟨fun h => by rw [h], fun h => (List.cons.inj h).2⟩
      · rw [if_pos h1, decide_eq_false (fun h => h1 (List.cons.inj h).1)]
    · rw [if_neg (by omega)]
      rw [List.drop_eq_nil_of_le (by omega), List.drop_eq_nil_of_le (by omega)]
      simp
theorem eq_ok {a b : List Int} (ha : a.length ≤ 1000000) : s19 a b = some (decide (a = b)) := by
  unfold s19 s19F
  by_cases hl : a.length = b.length
  · rw [if_neg (by omega)]
    have := eq_loop hl ha FUEL 0 (by omega) (by unfold FUEL; omega)
    rw [List.drop_zero, List.drop_zero] at this
    exact this
  · rw [if_pos (by omega), decide_eq_false (fun h => hl (by rw [h]))]
theorem castL_asc {f : Nat → Bool} {n p : Nat} : (castL (pgs n f p)).Pairwise (· < ·) := by
  unfold castL pgs
  rw [List.pairwise_map]
  refine (List.Pairwise.filter _ (List.pairwise_lt_range' (s := p) (n := n - p))).imp fun h => ?_
  omega
theorem mem_castL {f : Nat → Bool} {n p : Nat} {x : Int} : x ∈ castL (pgs n f p) ↔ ∃ q : Nat, x = q ∧ p ≤ q ∧ q < n ∧ f q = true := by
  unfold castL
  rw [List.mem_map]
  constructor
  · rintro ⟨q, h, rfl⟩
    exact ⟨q, rfl, mem_pgs.1 h⟩
  · rintro ⟨q, rfl, h⟩
    exact ⟨q, mem_pgs.2 h, rfl⟩
/-- A map in which just these are taken. -/
def m0 (xs : List Int) : Mp := ⟨fun q => !decide ((q : Int) ∈ xs), no, no, fun q => !decide ((q : Int) ∈ xs)⟩
theorem clone_l {xs : List Int} (hx : xs.length ≤ 1000000) : s11 xs = some ((), xs) := by
  unfold s11
  by_cases h : xs.length = 0
  · rw [if_pos h, List.eq_nil_of_length_eq_zero h]; rfl
  · rw [if_neg h]
    unfold s11_v2 s11_v2F
    rw [appI_ok (by simp; omega)]
    rfl
section
variable {n : Nat} (h0 : 1 ≤ n) (h1 : n ≤ 2048)
include h0 h1
theorem none1_eq (f g : Nat → Bool) : s68 n n (Wd n f) (Wd n g) = some ((), (((), (), (), ()), ((n : Int), ()), ((n : Int), ()), Wd n f, Wd n g, ((n : Int), ()), Wd n no)) := by
  unfold s68 s68F
  rw [size_eq h0 h1]
  simp only [Option.bind_some]
  rw [new_eq h0 h1]
  rfl
theorem settle1_eq (f : Nat → Bool) : s43 n (Wd n f) = some ((), (((), (), (), ()), ((n : Int), ()), Wd n f, ((n : Int), ()), ((n : Int), ()), ((n : Int), ()), Wd n no, Wd n no, Wd n f)) := by
  unfold s43 s43F
  rw [clone_eq _ h0 h1]
  simp only [Option.bind_some]
  rw [none1_eq h0 h1]
  simp only [Option.bind_some]
  rw [none1_eq h0 h1]
  rfl
theorem open_loop {xs : List Int} (hx : xs.length ≤ 1000000) (hp : ∀ x ∈ xs, 0 ≤ x ∧ x < n) : ∀ (fuel i : Nat), i ≤ xs.length → xs.length - i < fuel →
    s10_l1 fuel xs (xs.length : Int) i n (Wd n (fun q => decide ((q : Int) ∈ xs.take i))) = some (.inr (((), ()), mt n (m0 xs))) := by
  intro fuel
  induction fuel with
  | zero => intro i _ h; omega
  | succ fuel ih =>
    intro i hi hf
    show s10_l1B (s10_l1 fuel) xs (xs.length : Int) i n (Wd n (fun q => decide ((q : Int) ∈ xs.take i))) = _
    unfold s10_l1B
    by_cases h : i < xs.length
    · rw [if_pos (by omega), getI_nat, List.getElem?_eq_getElem h, Option.bind_some]
      obtain ⟨a, b⟩ := hp _ (List.getElem_mem h)
      obtain ⟨q, hq⟩ : ∃ q : Nat, xs[i] = q := ⟨xs[i].toNat, by omega⟩
      rw [hq, add_at _ h0 h1 (by omega)]
      simp only [Option.bind_some]
      rw [i64_in _ (by omega), show (i : Int) + 1 = ((i + 1 : Nat) : Int) by omega]
      have e : Wd n (upd (fun q => decide ((q : Int) ∈ xs.take i)) q true) = Wd n (fun q => decide ((q : Int) ∈ xs.take (i + 1))) := Wd_congr fun z _ => by
        unfold upd
        simp only [← List.take_append_getElem h, List.mem_append, List.mem_singleton, hq]
        by_cases hz : z = q
        · rw [if_pos hz]; subst hz; simp
        · rw [if_neg hz]
          rw [decide_eq_decide]
          constructor
          · exact .inl
          · rintro (h | h)
            · exact h
            · omega
      rw [e]
      exact ih (i + 1) (by omega) (by omega)
    · rw [if_neg (by omega), not_eq _ h0 h1]
      simp only [Option.bind_some]
      rw [settle1_eq h0 h1]
      have e : (fun p : Nat => !decide ((p : Int) ∈ xs.take i)) = fun p : Nat => !decide ((p : Int) ∈ xs) := by
        rw [List.take_of_length_le (by omega)]
      rw [e]
      rfl
end
theorem open_eq (n : Int) {xs : List Int} (hx : xs.length ≤ 1000000) : s10 n xs = some (if mayP n = true ∧ Lst n (-1) xs = true then .inr (((), ()), mt n.toNat (m0 xs)) else .inl ((), ())) := by
  unfold s10 s10F
  rw [fmay_ok, Option.bind_some]
  cases hm : mayP n with
  | false => rw [if_pos (by simp), if_neg (by simp)]; rfl
  | true =>
    rw [if_neg (by simp), lst_ok n hx, Option.bind_some]
    unfold s10_j1 s10_j1F
    cases hl : Lst n (-1) xs with
    | false => rw [decide_eq_true (by simp), if_pos rfl, if_neg (by simp)]
    | true =>
      rw [decide_eq_false (by simp), if_neg (by decide), if_pos ⟨rfl, rfl⟩]
      have hn : 8 ≤ n ∧ n ≤ 2048 := of_decide_eq_true hm
      obtain ⟨N, rfl⟩ : ∃ N : Nat, n = N := ⟨n.toNat, by omega⟩
      rw [new_eq (by omega) (by omega)]
      simp only [Option.bind_some]
      have := open_loop (n := N) (by omega) (by omega) hx (fun x h => Lst.lt hl (by omega) x h) FUEL 0 (by omega) (by unfold FUEL; omega)
      have e : (fun q : Nat => decide ((q : Int) ∈ xs.take 0)) = fun _ => false := by funext q; simp
      rw [e] at this
      generalize FUEL = F at this ⊢
      exact this
/-- At first what is taken is the list. -/
theorem taken0 {n : Nat} {xs : List Int} (h : Lst n (-1) xs = true) : castL (pgs n (tk (m0 xs)) 0) = xs := by
  refine asc_ext castL_asc (Lst.asc h).1 fun x => ?_
  rw [mem_castL]
  constructor
  · rintro ⟨q, rfl, _, hq, ht⟩
    unfold tk m0 no at ht
    simpa using ht
  · intro hx
    obtain ⟨a, b⟩ := Lst.lt h (by omega) x hx
    refine ⟨x.toNat, by omega, by omega, by omega, ?_⟩
    unfold tk m0 no
    simp only
    rw [show ((x.toNat : Nat) : Int) = x by omega, decide_eq_true hx]; rfl
end Go.Proofs.YtofhmhbffdoiaaaDoor
