/- The free map, plain laws, part 8: what each call does with the four sets. -/
import Derived.Test.YtofhmhbffdoiaaaDoorSG
namespace Go.Proofs.YtofhmhbffdoiaaaDoor
open Go Go.SX Go.VX
set_option maxRecDepth 100000
set_option linter.unusedVariables false
set_option linter.unusedSimpArgs false
abbrev Mt := (Unit × Unit × Unit × Unit) × (Int × Unit) × (Int × Unit) × (Int × Unit) × (Int × Unit) × List Int × List Int × List Int × List Int
/-- A map: which pages are free, held, one's own, and were free. -/
structure Mp where
  fr : Nat → Bool
  he : Nat → Bool
  ow : Nat → Bool
  wa : Nat → Bool
abbrev mt (n : Nat) (m : Mp) : Mt := (((), (), (), ()), ((n : Int), ()), ((n : Int), ()), ((n : Int), ()), ((n : Int), ()), Wd n m.fr, Wd n m.he, Wd n m.ow, Wd n m.wa)
theorem made_eq (a b c d : Int) (e f g h : List Int) : s45_v2 a b c d e f g h = some ((), (((), (), (), ()), (a, ()), (b, ()), (c, ()), (d, ()), e, f, g, h)) := rfl
theorem notAll {n : Nat} {f : Nat → Bool} {q m : Int} (hm : 1 ≤ m) {k : Nat} (hk : f k = false) (h1 : q ≤ k) (h2 : (k : Int) < q + m) : ¬ AllIn n f q m := fun h => by
  have := h.2.2 k h1 h2
  rw [hk] at this; cases this
theorem row_loop {n : Nat} {f : Nat → Bool} (he ow wa : List Int) {m : Int} (hm : 1 ≤ m) {p : Nat} {t} (hR : Runs n f ((), ((n : Int), ()), Wd n f) p t) : (∀ q : Int, q < p → ¬ AllIn n f q m) →
    ∃ r, s46_r1 t n n n he ow wa m (-1) = some (r, (((), (), (), ()), ((n : Int), ()), ((n : Int), ()), ((n : Int), ()), ((n : Int), ()), Wd n f, he, ow, wa)) ∧ RunAt n f m r := by
  induction hR with
  | @done p h =>
    intro hq
    refine ⟨-1, rfl, .inl ⟨rfl, fun q hA => ?_⟩⟩
    by_cases hlt : q < p
    · exact hq q hlt hA
    · have a := hA.1
      have b := hA.2.1
      exact notAll hm (h q.toNat (by omega) (by omega)) (by omega) (by omega) hA
  | @yield p q e t hp hqe hen h1' h2' h3' ht ih =>
    intro hq
    have low : ∀ x : Int, x < q → ¬ AllIn n f x m := fun x hx hA => by
      by_cases hlt : x < p
      · exact hq x hlt hA
      · have a := hA.1
        exact notAll hm (h1' x.toNat (by omega) (by omega)) (by omega) (by omega) hA
    show ∃ r, s46_r1B (fun a b c d e f g h => s46_r1 t a b c d e f g h) s46_j2 (q : Int) ((e : Int) - q) n (Wd n f) n n n he ow wa m (-1) = some (r, _) ∧ _
    unfold s46_r1B
    by_cases hl : (e : Int) - q < m
    · rw [if_pos hl]
      refine ih fun x hx hA => ?_
      by_cases hxq : x < q
      · exact low x hxq hA
      · have b := hA.2.1
        exact notAll hm (h3' (by omega)) (by omega) (by omega) hA
    · rw [if_neg hl]
      exact ⟨q, rfl, .inr ⟨⟨by omega, by omega, fun k a b => h2' k (by omega) (by omega)⟩, low⟩⟩
section
variable {n : Nat} (h0 : 1 ≤ n) (h1 : n ≤ 2048)
include h0 h1
theorem row_eq (m : Mp) {k : Int} (hk : 1 ≤ k) : ∃ r, s46 k n n n n (Wd n m.fr) (Wd n m.he) (Wd n m.ow) (Wd n m.wa) = some (r, mt n m) ∧ RunAt n m.fr k r := by
  unfold s46 s46F
  have e : s69 (n : Int) (Wd n m.fr) = some (((), ()), (((n : Int), ()), Wd n m.fr, ())) := rfl
  rw [e]
  simp only [Option.bind_some]
  unfold s46_j1 s46_j1F
  obtain ⟨t, ht, hR⟩ := runs_eq m.fr h0 h1
  rw [ht, Option.bind_some]
  exact row_loop (Wd n m.he) (Wd n m.ow) (Wd n m.wa) hk hR fun q hq hA => by have := hA.1; omega
/-- Pages in a row. -/
def inR (p k : Nat) (q : Nat) : Bool := decide (p ≤ q ∧ q < p + k)
def takeM (m : Mp) (p k : Nat) : Mp := ⟨fun q => m.fr q && !inR p k q, m.he, fun q => m.ow q || inR p k q, m.wa⟩
theorem take_loop (m : Mp) {p k : Nat} (hpk : p + k ≤ n) : ∀ (fuel i : Nat), i ≤ k → k - i < fuel →
    s47_l1 fuel p k i n n n n (Wd n (takeM m p i).fr) (Wd n m.he) (Wd n (takeM m p i).ow) (Wd n m.wa) = some ((), mt n (takeM m p k)) := by
  intro fuel
  induction fuel with
  | zero => intro i _ h; omega
  | succ fuel ih =>
    intro i hi hf
    show s47_l1B (s47_l1 fuel) p k i n n n n (Wd n (takeM m p i).fr) (Wd n m.he) (Wd n (takeM m p i).ow) (Wd n m.wa) = _
    unfold s47_l1B
    by_cases h : i < k
    · rw [if_pos (by omega), i64_in ((p : Int) + i) (by omega), show (p : Int) + i = ((p + i : Nat) : Int) by omega, drop_at _ h0 h1 (by omega)]
      simp only [Option.bind_some]
      rw [add_at _ h0 h1 (by omega)]
      simp only [Option.bind_some]
      rw [i64_in _ (by omega), show (i : Int) + 1 = ((i + 1 : Nat) : Int) by omega]
      have e1 : Wd n (upd (takeM m p i).fr (p + i) false) = Wd n (takeM m p (i + 1)).fr := Wd_congr fun q _ => by
        unfold upd takeM inR
        simp only
        by_cases hq : q = p + i
        · rw [if_pos hq, decide_eq_true (by omega)]; simp
        · rw [if_neg hq]
          congr 2
          rw [decide_eq_decide]; omega
      have e2 : Wd n (upd (takeM m p i).ow (p + i) true) = Wd n (takeM m p (i + 1)).ow := Wd_congr fun q _ => by
        unfold upd takeM inR
        simp only
        by_cases hq : q = p + i
        · rw [if_pos hq, decide_eq_true (by omega)]; simp
        · rw [if_neg hq]
          congr 1
          rw [decide_eq_decide]; omega
      rw [e1, e2]
      exact ih (i + 1) (by omega) (by omega)
    · rw [if_neg (by omega)]
      obtain rfl : i = k := by omega
      rfl
theorem take_eq (m : Mp) {p k : Nat} (hpk : p + k ≤ n) : s47 p k n n n n (Wd n m.fr) (Wd n m.he) (Wd n m.ow) (Wd n m.wa) = some ((), mt n (takeM m p k)) := by
  unfold s47 s47F
  have := take_loop h0 h1 m hpk FUEL 0 (by omega) (by unfold FUEL; omega)
  have e1 : Wd n (takeM m p 0).fr = Wd n m.fr := Wd_congr fun q _ => by
    unfold takeM inR; simp only; rw [decide_eq_false (by omega)]; simp
  have e2 : Wd n (takeM m p 0).ow = Wd n m.ow := Wd_congr fun q _ => by
    unfold takeM inR; simp only; rw [decide_eq_false (by omega)]; simp
  rw [e1, e2] at this
  generalize FUEL = F at this ⊢
  exact this
/-- Pages that are asked for. -/
theorem alloc_eq (m : Mp) (k : Int) : ∃ r, (1 ≤ k → RunAt n m.fr k r) ∧ s14_v2 k n n n n (Wd n m.fr) (Wd n m.he) (Wd n m.ow) (Wd n m.wa) =
    some (if k < 1 then ((0, 1), mt n m) else if r < 0 then ((0, 6), mt n m) else ((r, 0), mt n (takeM m r.toNat k.toNat))) := by
  by_cases hk : k < 1
  · refine ⟨0, fun h => by omega, ?_⟩
    unfold s14_v2 s14_v2F
    rw [made_eq]
    simp only [Option.bind_some]
    rw [if_pos hk, if_pos hk]
  · obtain ⟨r, e, hr⟩ := row_eq h0 h1 m (k := k) (by omega)
    refine ⟨r, fun _ => hr, ?_⟩
    unfold s14_v2 s14_v2F
    rw [made_eq]
    simp only [Option.bind_some]
    rw [if_neg hk, if_neg hk, e]
    simp only [Option.bind_some]
    by_cases hr0 : r < 0
    · rw [if_pos hr0, if_pos hr0]
    · rw [if_neg hr0, if_neg hr0]
      rcases hr with ⟨rfl, _⟩ | ⟨⟨a, b, c⟩, _⟩
      · exact absurd (by decide) hr0
      · have := take_eq h0 h1 m (p := r.toNat) (k := k.toNat) (by omega)
        rw [show ((r.toNat : Nat) : Int) = r by omega, show ((k.toNat : Nat) : Int) = k by omega] at this
        rw [this]
        rfl
theorem alloc1_eq (m : Mp) : s12_v2 n n n n (Wd n m.fr) (Wd n m.he) (Wd n m.ow) (Wd n m.wa) = s14_v2 1 n n n n (Wd n m.fr) (Wd n m.he) (Wd n m.ow) (Wd n m.wa) := by
  unfold s12_v2 s12_v2F
  obtain ⟨r, _, e⟩ := alloc_eq h0 h1 m 1
  rw [e]
  simp only [Option.bind_some]
theorem mhas_eq (m : Mp) (p : Int) : s32 p n n n n (Wd n m.fr) (Wd n m.he) (Wd n m.ow) (Wd n m.wa) = some (decide (0 ≤ p ∧ p < n ∧ m.fr p.toNat = false ∧ m.he p.toNat = false), mt n m) := by
  unfold s32 s32F
  rw [made_eq]
  simp only [Option.bind_some]
  by_cases hp : p ≥ 0
  · rw [if_pos hp, size_eq h0 h1]
    simp only [Option.bind_some]
    by_cases hn : p < n
    · rw [if_pos hn]
      obtain ⟨q, rfl⟩ : ∃ q : Nat, p = q := ⟨p.toNat, by omega⟩
      rw [has_at _ h0 h1 (by omega)]
      simp only [Option.bind_some, Int.toNat_natCast]
      by_cases hf : m.fr q = true
      · rw [if_neg (by rw [hf]; decide), decide_eq_false (by rw [hf]; simp)]
      · rw [if_pos hf, has_at _ h0 h1 (by omega)]
        simp only [Option.bind_some]
        congr 2
        rw [decide_eq_decide]
        have hf' : m.fr q = false := by simpa using hf
        rw [hf']
        by_cases hh : m.he q = true
        · rw [hh]; simp
        · have hh' : m.he q = false := by simpa using hh
          rw [hh']; simp; omega
    · rw [if_neg hn, decide_eq_false (by omega)]
  · rw [if_neg hp, decide_eq_false (by omega)]
theorem mine_eq (m : Mp) (p : Int) : s33 p n n n n (Wd n m.fr) (Wd n m.he) (Wd n m.ow) (Wd n m.wa) = some (decide (0 ≤ p ∧ p < n ∧ m.ow p.toNat = true), mt n m) := by
  unfold s33 s33F
  rw [made_eq]
  simp only [Option.bind_some]
  rw [has_eq _ h0 h1]
  rfl
def hasP (n : Nat) (m : Mp) (p : Int) : Prop := 0 ≤ p ∧ p < n ∧ m.fr p.toNat = false ∧ m.he p.toNat = false
instance (n : Nat) (m : Mp) (p : Int) : Decidable (hasP n m p) := by unfold hasP; infer_instance
def freeM (m : Mp) (p : Nat) : Mp := if m.ow p = true then ⟨upd m.fr p true, m.he, upd m.ow p false, m.wa⟩ else ⟨m.fr, upd m.he p true, upd m.ow p false, m.wa⟩
/-- A page that is let go. -/
theorem free_eq (m : Mp) (p : Int) : s15 p n n n n (Wd n m.fr) (Wd n m.he) (Wd n m.ow) (Wd n m.wa) = some (if hasP n m p then (0, mt n (freeM m p.toNat)) else (4, mt n m)) := by
  unfold s15 s15F
  rw [made_eq]
  simp only [Option.bind_some]
  rw [mhas_eq h0 h1]
  simp only [Option.bind_some]
  by_cases h : hasP n m p
  · rw [if_pos h]
    have h' : (0 ≤ p ∧ p < n ∧ m.fr p.toNat = false ∧ m.he p.toNat = false) := h
    rw [decide_eq_true h', if_neg (by simp)]
    obtain ⟨a, b, c, d⟩ := h'
    obtain ⟨q, rfl⟩ : ∃ q : Nat, p = q := ⟨p.toNat, by omega⟩
    rw [Int.toNat_natCast] at c d
    rw [drop_at _ h0 h1 (by omega)]
    simp only [Option.bind_some, Int.toNat_natCast]
    unfold freeM
    cases ho : m.ow q with
    | true =>
      rw [if_pos rfl, if_pos rfl, add_at _ h0 h1 (by omega)]
      simp only [Option.bind_some]
      rw [c]; rfl
    | false =>
      rw [if_neg (by decide), if_neg (by decide), add_at _ h0 h1 (by omega)]
      simp only [Option.bind_some]
      rw [d]; rfl
  · rw [if_neg h]
    have h' : ¬ (0 ≤ p ∧ p < n ∧ m.fr p.toNat = false ∧ m.he p.toNat = false) := h
    rw [decide_eq_false h', if_pos (by simp)]
def no : Nat → Bool := fun _ => false
abbrev Mt2 := (Unit × Unit × Unit × Unit) × (Int × Unit) × (Int × Unit) × (Int × Unit) × (Int × Unit) × List Int × List Int × List Int × List Int × (Int × Unit) × (Int × Unit) × (Int × Unit) × List Int × List Int × List Int
abbrev mt2 (n : Nat) (m : Mp) (w : Nat → Bool) : Mt2 := (((), (), (), ()), ((n : Int), ()), ((n : Int), ()), ((n : Int), ()), ((n : Int), ()), Wd n m.fr, Wd n m.he, Wd n m.ow, Wd n m.wa, ((n : Int), ()), ((n : Int), ()), ((n : Int), ()), Wd n no, Wd n no, Wd n w)
theorem none2_eq (m : Mp) : s68_v2 n n n n (Wd n m.fr) (Wd n m.he) (Wd n m.ow) (Wd n m.wa) = some ((), (((), (), (), ()), ((n : Int), ()), ((n : Int), ()), ((n : Int), ()), ((n : Int), ()), Wd n m.fr, Wd n m.he, Wd n m.ow, Wd n m.wa, ((n : Int), ()), Wd n no)) := by
  unfold s68_v2 s68_v2F
  rw [size_eq h0 h1]
  simp only [Option.bind_some]
  rw [new_eq h0 h1]
  rfl
theorem settle2_eq (m : Mp) : s43_v2 n n n n (Wd n m.fr) (Wd n m.he) (Wd n m.ow) (Wd n m.wa) = some ((), mt2 n m m.fr) := by
  unfold s43_v2 s43_v2F
  rw [clone_eq _ h0 h1]
  simp only [Option.bind_some]
  have := none2_eq h0 h1 ⟨m.fr, m.he, m.ow, m.fr⟩
  simp only at this
  rw [this]
  simp only [Option.bind_some]
  rw [this]
  rfl
theorem settle3_eq (m : Mp) : s43_v3 n n n (Wd n m.wa) (Wd n m.he) (Wd n m.ow) = some ((), (((), (), (), ()), ((n : Int), ()), ((n : Int), ()), ((n : Int), ()), Wd n m.wa, Wd n m.he, Wd n m.ow, ((n : Int), ()), ((n : Int), ()), ((n : Int), ()), Wd n no, Wd n no, Wd n m.wa)) := by
  unfold s43_v3 s43_v3F
  rw [clone_eq _ h0 h1]
  simp only [Option.bind_some]
  have := none2_eq h0 h1 ⟨m.wa, m.he, m.ow, m.wa⟩
  simp only at this
  rw [this]
  simp only [Option.bind_some]
  rw [this]
  rfl
theorem abort_eq (m : Mp) : s18 n n n n (Wd n m.fr) (Wd n m.he) (Wd n m.ow) (Wd n m.wa) = some ((), mt2 n m m.wa) := by
  unfold s18 s18F
  rw [made_eq]
  simp only [Option.bind_some]
  rw [settle3_eq h0 h1]
  rfl
def orL (f : Nat → Bool) (l : List Nat) : Nat → Bool := fun q => f q || decide (q ∈ l)
theorem commit_loop (m : Mp) : ∀ (l : List Nat) (f : Nat → Bool), (∀ q ∈ l, q < n) →
    s16_r1 (trl ((), ((n : Int), ()), Wd n m.he) (castL l)) n n n (Wd n f) (Wd n m.ow) (Wd n m.wa) = some ((), mt2 n ⟨orL f l, m.he, m.ow, m.wa⟩ (orL f l)) := by
  intro l
  induction l with
  | nil =>
    intro f _
    have e : orL f [] = f := by funext q; unfold orL; simp
    rw [e]
    show s16_r1D n (Wd n m.he) n n n (Wd n f) (Wd n m.ow) (Wd n m.wa) = _
    unfold s16_r1D
    rw [settle2_eq h0 h1 ⟨f, m.he, m.ow, m.wa⟩]
    rfl
  | cons v l ih =>
    intro f hl
    show s16_r1B (fun a b c d e g => s16_r1 (trl ((), ((n : Int), ()), Wd n m.he) (castL l)) a b c d e g) (v : Int) n n n (Wd n f) (Wd n m.ow) (Wd n m.wa) = _
    unfold s16_r1B
    rw [add_at _ h0 h1 (hl v (by simp))]
    simp only [Option.bind_some]
    rw [ih (upd f v true) fun q hq => hl q (by simp [hq])]
    have e : orL (upd f v true) l = orL f (v :: l) := by
      funext q
      unfold orL upd
      by_cases hq : q = v
      · rw [if_pos hq, hq]; simp
      · rw [if_neg hq]; simp [hq]
    rw [e]
theorem commit_eq (m : Mp) : s16 n n n n (Wd n m.fr) (Wd n m.he) (Wd n m.ow) (Wd n m.wa) = some ((), mt2 n ⟨fun q => m.fr q || m.he q, m.he, m.ow, m.wa⟩ (fun q => m.fr q || m.he q)) := by
  unfold s16 s16F
  rw [made_eq]
  simp only [Option.bind_some]
  have e : s49 (n : Int) (Wd n m.he) = some (((), ()), (((n : Int), ()), Wd n m.he, ())) := rfl
  rw [e]
  simp only [Option.bind_some]
  unfold s16_j1 s16_j1F
  rw [all_eq _ h0 h1, Option.bind_some, commit_loop h0 h1 m _ _ fun q hq => (mem_pgs.1 hq).2.1]
  have e2 : Wd n (orL m.fr (pgs n m.he 0)) = Wd n (fun q => m.fr q || m.he q) := Wd_congr fun q hq => by
    unfold orL
    congr 1
    cases hh : m.he q with
    | true => rw [decide_eq_true]; exact mem_pgs.2 ⟨by omega, hq, hh⟩
    | false => rw [decide_eq_false]; intro h; have := (mem_pgs.1 h).2.2; rw [hh] at this; cases this
  show some ((), mt2 n _ _) = some ((), mt2 n _ _)
  unfold mt2
  simp only
  rw [e2]
theorem avail_eq (m : Mp) : s29 n n n n (Wd n m.fr) (Wd n m.he) (Wd n m.ow) (Wd n m.wa) = some ((((List.range n).countP m.fr : Nat) : Int), mt n m) := by
  unfold s29 s29F
  rw [made_eq]
  simp only [Option.bind_some]
  rw [len_eq _ h0 h1]
  rfl
theorem held_eq (m : Mp) : s28 n n n n (Wd n m.fr) (Wd n m.he) (Wd n m.ow) (Wd n m.wa) = some ((((List.range n).countP m.he : Nat) : Int), mt n m) := by
  unfold s28 s28F
  rw [made_eq]
  simp only [Option.bind_some]
  rw [len_eq _ h0 h1]
  rfl
/-- Is a page taken? -/
def tk (m : Mp) (q : Nat) : Bool := !m.fr q && !m.he q
theorem taken_loop (m : Mp) : ∀ (fuel i : Nat), i ≤ n → n - i < fuel → s17_l1 fuel n i n n n n (Wd n m.fr) (Wd n m.he) (Wd n m.ow) (Wd n m.wa) (castL ((List.range i).filter (tk m))) = some ((), (((), (), (), ()), ((n : Int), ()), ((n : Int), ()), ((n : Int), ()), ((n : Int), ()), Wd n m.fr, Wd n m.he, Wd n m.ow, Wd n m.wa, castL (pgs n (tk m) 0))) := by
  intro fuel
  induction fuel with
  | zero => intro i _ h; omega
  | succ fuel ih =>
    intro i hi hf
    show s17_l1B (s17_j1 (s17_l1 fuel)) n i n n n n (Wd n m.fr) (Wd n m.he) (Wd n m.ow) (Wd n m.wa) (castL ((List.range i).filter (tk m))) = _
    unfold s17_l1B
    by_cases h : i < n
    · rw [if_pos (by omega), mhas_eq h0 h1]
      simp only [Option.bind_some]
      have e3 : ∀ l, s17_j1 (s17_l1 fuel) n i n n n n (Wd n m.fr) (Wd n m.he) (Wd n m.ow) (Wd n m.wa) l = s17_l1 fuel n ((i + 1 : Nat) : Int) n n n n (Wd n m.fr) (Wd n m.he) (Wd n m.ow) (Wd n m.wa) l := fun l => by
        unfold s17_j1 s17_j1F
        rw [i64_in _ (by omega), show (i : Int) + 1 = ((i + 1 : Nat) : Int) by omega]
      have e4 : (decide (0 ≤ (i : Int) ∧ (i : Int) < n ∧ m.fr (i : Int).toNat = false ∧ m.he (i : Int).toNat = false)) = tk m i := by
        unfold tk
        rw [Int.toNat_natCast]
        cases m.fr i <;> cases m.he i <;> simp <;> omega
      rw [e4, e3]
      have e5 : (List.range (i + 1)).filter (tk m) = (List.range i).filter (tk m) ++ if tk m i = true then [i] else [] := by
        rw [List.range_succ, List.filter_append]
        cases h : tk m i <;> simp [h]
      have := ih (i + 1) (by omega) (by omega)
      rw [e5] at this
      cases ht : tk m i with
      | true =>
        rw [ht, if_pos rfl] at this
        have hlen := List.length_filter_le (tk m) (List.range i)
        rw [List.length_range] at hlen
        rw [if_pos rfl, appI_ok (by unfold castL; simp; omega), Option.bind_some, e3]
        have e6 : castL ((List.range i).filter (tk m)) ++ [(i : Int)] = castL ((List.range i).filter (tk m) ++ [i]) := by unfold castL; simp
        rw [e6]
        exact this
      | false =>
        rw [ht, if_neg (by decide), List.append_nil] at this
        rw [if_neg (by decide)]
        exact this
    · rw [if_neg (by omega)]
      obtain rfl : i = n := by omega
      rw [pgs_zero]
theorem taken_eq (m : Mp) : s17 n n n n (Wd n m.fr) (Wd n m.he) (Wd n m.ow) (Wd n m.wa) = some ((), (((), (), (), ()), ((n : Int), ()), ((n : Int), ()), ((n : Int), ()), ((n : Int), ()), Wd n m.fr, Wd n m.he, Wd n m.ow, Wd n m.wa, castL (pgs n (tk m) 0))) := by
  unfold s17 s17F
  rw [made_eq]
  simp only [Option.bind_some]
  rw [size_eq h0 h1]
  simp only [Option.bind_some]
  have := taken_loop h0 h1 m FUEL 0 (by omega) (by unfold FUEL; omega)
  generalize FUEL = F at this ⊢
  exact this
theorem mall_eq (m : Mp) : s55 n n n n (Wd n m.fr) (Wd n m.he) (Wd n m.ow) (Wd n m.wa) = some (trl ((), mt n m) (castL (pgs n m.fr 0))) := by
  unfold s55 s55F
  rw [made_eq]
  simp only [Option.bind_some]
  have e : s49 (n : Int) (Wd n m.fr) = some (((), ()), (((n : Int), ()), Wd n m.fr, ())) := rfl
  rw [e]
  simp only [Option.bind_some]
  unfold s55_j1 s55_j1F
  rw [all_eq _ h0 h1, Option.bind_some]
  have : ∀ l : List Int, s55_r1 (trl ((), ((n : Int), ()), Wd n m.fr) l) n n n (Wd n m.he) (Wd n m.ow) (Wd n m.wa) = some (trl ((), mt n m) l) := by
    intro l
    induction l with
    | nil => rfl
    | cons v l ih =>
      show s55_r1B (s55_j2 (fun a b c d e f => s55_r1 (trl ((), ((n : Int), ()), Wd n m.fr) l) a b c d e f) n (Wd n m.fr)) v n n n (Wd n m.he) (Wd n m.ow) (Wd n m.wa) = _
      unfold s55_r1B s55_j2 s55_j2F
      rw [if_pos rfl, if_neg (by decide)]
      simp only [ih]
      rfl
  exact this _
theorem told_eq (m : Mp) (k : Nat) : s30 k n n n n (Wd n m.fr) (Wd n m.he) (Wd n m.ow) (Wd n m.wa) = some ((), ((), ((), (), (), ()), ((n : Int), ()), ((n : Int), ()), ((n : Int), ()), ((n : Int), ()), Wd n m.fr, Wd n m.he, Wd n m.ow, Wd n m.wa, (castL (pgs n m.fr 0)).take k)) := by
  unfold s30 s30F s30_j1 s30_j1F
  rw [mall_eq h0 h1, Option.bind_some]
  have hlen : (castL (pgs n m.fr 0)).length ≤ 2048 := by
    have := pgs_len (n := n) (f := m.fr) (p := 0)
    unfold castL; rw [List.length_map]; omega
  have : ∀ (l a : List Int), a.length ≤ k → a.length + l.length ≤ 2048 → s30_r1 (trl ((), mt n m) l) k a = some ((), ((), ((), (), (), ()), ((n : Int), ()), ((n : Int), ()), ((n : Int), ()), ((n : Int), ()), Wd n m.fr, Wd n m.he, Wd n m.ow, Wd n m.wa, a ++ l.take (k - a.length))) := by
    intro l
    induction l with
    | nil => intro a _ _; rw [List.take_nil, List.append_nil]; rfl
    | cons v l ih =>
      intro a ha hl
      rw [List.length_cons] at hl
      show s30_r1B s30_j2 (fun x y => s30_r1 (trl ((), mt n m) l) x y) v n n n n (Wd n m.fr) (Wd n m.he) (Wd n m.ow) (Wd n m.wa) k a = _
      unfold s30_r1B
      by_cases h : (a.length : Int) ≥ k
      · rw [if_pos h, show k - a.length = 0 by omega, List.take_zero, List.append_nil]
        rfl
      · rw [if_neg h, appI_ok (by simp; omega), Option.bind_some]
        simp only
        rw [ih (a ++ [v]) (by simp; omega) (by simp; omega)]
        have e1 : k - a.length = (k - (a ++ [v]).length) + 1 := by simp; omega
        rw [e1, List.take_succ_cons, List.append_assoc]
        rfl
  have := this (castL (pgs n m.fr 0)) [] (by simp) (by simp; exact hlen)
  rw [List.length_nil, Nat.sub_zero, List.nil_append] at this
  exact this
end
end Go.Proofs.YtofhmhbffdoiaaaDoor
