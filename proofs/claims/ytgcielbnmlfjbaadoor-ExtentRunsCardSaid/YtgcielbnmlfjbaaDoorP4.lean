/- Layer 7, plain laws, part 4: runs; sets with some pages. -/
import Derived.Test.YtgcielbnmlfjbaaDoorP3
namespace Go.Proofs.YtgcielbnmlfjbaaDoor
open Go Go.SX

def AllIn (s : T_extent_Set) (q m : Int) : Prop := ∀ k : Int, 0 ≤ k → k < m → In s (q + k)
def RunAt (s : T_extent_Set) (m r : Int) : Prop := (r = -1 ∧ ∀ q : Int, 0 ≤ q → ¬ AllIn s q m) ∨ (0 ≤ r ∧ AllIn s r m ∧ ∀ q : Int, 0 ≤ q → q < r → ¬ AllIn s q m)
/-- The end of a run that begins at x. -/
structure EndAt (s : T_extent_Set) (x e : Int) : Prop where
  lt : x < e
  le : e ≤ s.n
  all : ∀ q : Int, x ≤ q → q < e → In s q
  out : ¬ In s e
theorem end_of {s u : T_extent_Set} (hn : u.n = s.n) (hb : ∀ p : Nat, (p : Int) < s.n → bitAt u.w p = !bitAt s.w p) {x e : Int} (hx : In s x) (h : First u x e) : EndAt s x (if e < 0 then s.n else e) := by
  obtain ⟨h0, h1, _⟩ := hx
  have hx : In s x := ⟨h0, h1, by assumption⟩
  rcases h with ⟨rfl, h2⟩ | ⟨h2, h3, h4⟩
  · rw [if_pos (by decide)]
    refine ⟨h1, Int.le_refl _, fun q q1 q2 => ?_, fun hin => by have := hin.2.1; omega⟩
    by_cases hq : In s q
    · exact hq
    · exact absurd ((not_in hn hb (by omega) q2).2 hq) (h2 q q1)
  · have he := h2.1
    have he2 := h2.2.1
    rw [if_neg (by omega)]
    have hout : ¬ In s e := (not_in hn hb he (by omega)).1 h2
    have hne : x ≠ e := by rintro rfl; exact hout hx
    refine ⟨by omega, by omega, fun q q1 q2 => ?_, hout⟩
    by_cases hq : In s q
    · exact hq
    · exact absurd ((not_in hn hb (by omega) (by omega)).2 hq) (h4 q q1 q2)
theorem run_loop {s u : T_extent_Set} (h : WF s) (hu : WF u) (hn : u.n = s.n) (hb : ∀ p : Nat, (p : Int) < s.n → bitAt u.w p = !bitAt s.w p) {m : Int} (hm : 1 ≤ m) : ∀ (fuel : Nat) (x : Int),
    ((x = -1 ∧ ∀ q : Int, 0 ≤ q → ¬ AllIn s q m) ∨ (In s x ∧ ∀ q : Int, 0 ≤ q → q < x → ¬ AllIn s q m)) → (if x < 0 then 0 else s.n - x) < fuel → ∃ r, g15_l4 s m u fuel x = some r ∧ RunAt s m r := by
  intro fuel
  have hhi := h.hi
  have hlo := h.lo
  induction fuel with
  | zero =>
    intro x hx hf
    rcases hx with ⟨rfl, _⟩ | ⟨h1, _⟩
    · rw [if_pos (by decide)] at hf; omega
    · have := h1.2.1; have := h1.1; rw [if_neg (by omega)] at hf; omega
  | succ fuel ih =>
    intro x hx hf
    show ∃ r, g15_l4B s m u (g15_l4 s m u fuel) x = some r ∧ _
    unfold g15_l4B
    rcases hx with ⟨rfl, h2⟩ | ⟨h1, h2⟩
    · rw [if_neg (by decide)]
      exact ⟨-1, rfl, .inl ⟨rfl, h2⟩⟩
    · have hx0 := h1.1
      have hx1 := h1.2.1
      rw [if_neg (by omega)] at hf
      rw [if_pos (by omega)]
      obtain ⟨e, he, hf1⟩ := first_ok hu x (by omega)
      rw [he, Option.bind_some]
      have hend := end_of hn hb h1 hf1
      have hcall : (if e < 0 then g15_j5 s m x (g15_l4 s m u fuel) s.n else g15_j5 s m x (g15_l4 s m u fuel) e) = g15_j5 s m x (g15_l4 s m u fuel) (if e < 0 then s.n else e) := by split <;> rfl
      rw [hcall]
      generalize (if e < 0 then s.n else e) = e' at hend
      obtain ⟨q1, q2, q3, q4⟩ := hend
      unfold g15_j5
      rw [i64_in _ (by omega)]
      by_cases hge : e' - x ≥ m
      · rw [if_pos hge]
        exact ⟨x, rfl, .inr ⟨hx0, fun k k0 k1 => q3 _ (by omega) (by omega), h2⟩⟩
      · rw [if_neg hge]
        obtain ⟨y, hy, hfy⟩ := first_ok h e' (by omega)
        rw [hy, Option.bind_some]
        have mid : ∀ q : Int, 0 ≤ q → q < e' → ¬ AllIn s q m := by
          intro q hq0 hq1 hall
          by_cases hqx : q < x
          · exact h2 q hq0 hqx hall
          · have := hall (e' - q) (by omega) (by omega)
            rw [show q + (e' - q) = e' by omega] at this
            exact q4 this
        refine ih y ?_ ?_
        · rcases hfy with ⟨rfl, h5⟩ | ⟨h5, h6, h7⟩
          · refine .inl ⟨rfl, fun q hq0 hall => ?_⟩
            by_cases hq : q < e'
            · exact mid q hq0 hq hall
            · have := hall 0 (by omega) (by omega)
              rw [Int.add_zero] at this
              exact h5 q (by omega) this
          · refine .inr ⟨h5, fun q hq0 hq1 hall => ?_⟩
            by_cases hq : q < e'
            · exact mid q hq0 hq hall
            · have := hall 0 (by omega) (by omega)
              rw [Int.add_zero] at this
              exact h7 q (by omega) hq1 this
        · rcases hfy with ⟨rfl, _⟩ | ⟨h5, h6, _⟩
          · rw [if_pos (by decide)]; omega
          · rw [if_neg (by omega)]; omega
theorem run_ok {s : T_extent_Set} (h : WF s) {m : Int} (hm : 1 ≤ m) : ∃ r, g15 s m = some r ∧ RunAt s m r := by
  unfold g15
  rw [if_neg (by omega)]
  obtain ⟨u, hu, h1, h2, h3⟩ := not_ok h
  rw [hu, Option.bind_some]
  show ∃ r, ((g27 s 0).bind fun x6740 => g15_l4 s m u FUEL x6740) = some r ∧ _
  obtain ⟨x, hx, hf⟩ := first_ok h 0 (by omega)
  rw [hx, Option.bind_some]
  have hhi := h.hi
  refine run_loop h h1 h2 h3 hm FUEL x ?_ ?_
  · rcases hf with ⟨rfl, h5⟩ | ⟨h5, h6, h7⟩
    · refine .inl ⟨rfl, fun q hq0 hall => ?_⟩
      have := hall 0 (by omega) (by omega)
      rw [Int.add_zero] at this
      exact h5 q hq0 this
    · refine .inr ⟨h5, fun q hq0 hq1 hall => ?_⟩
      have := hall 0 (by omega) (by omega)
      rw [Int.add_zero] at this
      exact h7 q hq0 hq1 this
  · unfold FUEL
    rcases hf with ⟨rfl, _⟩ | ⟨h5, _⟩
    · rw [if_pos (by decide)]; omega
    · have := h5.1; rw [if_neg (by omega)]; omega
/-- A page is put in. -/
def put (s : T_extent_Set) (p : Int) : T_extent_Set := ⟨s.n, s.w.set (p.toNat / 64) (((s.w.getD (p.toNat / 64) 0).toNat ||| 2 ^ (p.toNat % 64) : Nat) : Int)⟩
theorem put_bit {s : T_extent_Set} (h : WF s) {p : Int} (h0 : 0 ≤ p) (h1 : p < s.n) (q : Nat) : bitAt (put s p).w q = (bitAt s.w q || decide (q = p.toNat)) := by
  obtain ⟨n, rfl⟩ : ∃ n : Nat, p = n := ⟨p.toNat, by omega⟩
  obtain ⟨x, hx1, hx2, hx3⟩ := h.word (p := n) h1
  have hlt : n / 64 < s.w.length := (List.getElem?_eq_some_iff.1 hx1).1
  have hg : (s.w.getD (n / 64) 0).toNat = x := by rw [List.getD_eq_getElem?_getD, hx1]; rfl
  unfold put
  simp only [Int.toNat_natCast]
  rw [hg]
  by_cases hq : q / 64 = n / 64
  · obtain ⟨j, rfl⟩ : ∃ j, q = 64 * (n / 64) + j := ⟨q - 64 * (n / 64), by omega⟩
    rw [bitAt_in (x := x ||| 2 ^ (n % 64)) (by rw [List.getElem?_set_self hlt]) (by omega), bitAt_in hx1 (by omega), Nat.testBit_or, Nat.testBit_two_pow]
    congr 1
    rw [decide_eq_decide]
    omega
  · unfold bitAt
    rw [List.getD_eq_getElem?_getD, List.getD_eq_getElem?_getD, List.getElem?_set_ne (Ne.symm hq)]
    rw [decide_eq_false (by rintro rfl; exact hq rfl), Bool.or_false]
theorem put_WF {s : T_extent_Set} (h : WF s) {p : Int} (h0 : 0 ≤ p) (h1 : p < s.n) : WF (put s p) := by
  refine ⟨h.lo, h.hi, by unfold put; simp only [List.length_set]; exact h.len, fun x hx => ?_, fun q hq => ?_⟩
  · unfold put at hx
    rcases List.mem_or_eq_of_mem_set hx with h2 | h2
    · exact h.wd x h2
    · subst h2
      obtain ⟨y, hy1, hy2, _⟩ := h.word (p := p.toNat) (by omega)
      have hg : (s.w.getD (p.toNat / 64) 0).toNat = y := by rw [List.getD_eq_getElem?_getD, hy1]; rfl
      rw [hg]
      have := Nat.or_lt_two_pow (n := 64) (x := y) (y := 2 ^ (p.toNat % 64)) (by omega) (Nat.pow_lt_pow_right (by decide) (by omega))
      unfold W64; omega
  · have hq' : s.n ≤ (q : Int) := hq
    rw [put_bit h h0 h1, h.top q hq', decide_eq_false (by omega)]; rfl
theorem add_ok {s : T_extent_Set} (h : WF s) (p : Int) : g22 s p = some (if 0 ≤ p ∧ p < s.n then (if In s p then (70, s) else (0, put s p)) else (1, s)) := by
  unfold g22
  rw [may_ok h, Option.bind_some]
  by_cases hp : 0 ≤ p ∧ p < s.n
  · rw [if_pos hp, if_neg (by decide), if_pos hp, has_ok h, Option.bind_some]
    by_cases hin : In s p
    · rw [decide_eq_true hin, if_pos rfl, if_pos hin]
    · rw [decide_eq_false hin, if_neg (by decide), if_neg hin]
      obtain ⟨n, rfl⟩ : ∃ n : Nat, p = n := ⟨p.toNat, by omega⟩
      have hhi := h.hi
      obtain ⟨x, hx1, hx2, hx3⟩ := h.word (p := n) hp.2
      have hlt : n / 64 < s.w.length := (List.getElem?_eq_some_iff.1 hx1).1
      have h2p := two_le (k := n % 64) (by omega)
      rw [div_ok (by omega), getI_of hx1, Option.bind_some, bit_ok (by omega), Option.bind_some, Option.bind_some, orI_u64 hx2 (by omega), setI_of (by omega) (by omega), Option.bind_some]
      unfold put
      have hg : (s.w.getD (n / 64) 0).toNat = x := by rw [List.getD_eq_getElem?_getD, hx1]; rfl
      simp only [Int.toNat_natCast]
      rw [hg]
  · rw [if_neg hp, if_pos (by decide), if_neg hp]
theorem new_ok {n : Int} (h0 : 1 ≤ n) (h1 : n ≤ 2048) : g19 n = some (some ⟨n, List.replicate ((n + 63) / 64).toNat 0⟩, 0) ∧ WF ⟨n, List.replicate ((n + 63) / 64).toNat 0⟩ := by
  constructor
  · unfold g19
    rw [if_neg (by omega)]
    unfold g19_j1
    rw [decide_eq_false (by omega), if_neg (by decide)]
    rw [i64_in (n + 64) (by omega), i64_in (n + 64 - 1) (by omega), Int.tdiv_eq_ediv_of_nonneg (by omega), i64_in _ (by omega), Option.bind_some]
    rw [show n + 64 - 1 = n + 63 by omega]
    unfold repI
    rw [if_pos (by omega)]
    rfl
  · refine ⟨h0, h1, by simp only [List.length_replicate]; omega, fun x hx => ?_, fun p _ => ?_⟩
    · have := List.eq_of_mem_replicate hx
      subst this
      unfold W64; omega
    · unfold bitAt
      rw [List.getD_eq_getElem?_getD, List.getElem?_replicate]
      split <;> simp
theorem of_loop {l : List Int} : ∀ (fuel i : Nat) (s : T_extent_Set), WF s → l.length ≤ 9223372036854775807 → i ≤ l.length → l.length < fuel + i → ∃ s', g10_l3 l fuel i s.n s.w = some (some s') ∧ WF s' ∧ s'.n = s.n ∧ (∀ q : Int, In s' q ↔ (In s q ∨ (0 ≤ q ∧ q < s.n ∧ q ∈ l.drop i))) := by
  intro fuel
  induction fuel with
  | zero => intro i s h hb h1 h2; omega
  | succ fuel ih =>
    intro i s h hb h1 h2
    show ∃ s', g10_l3B l (g10_l3 l fuel) i s.n s.w = some (some s') ∧ _
    unfold g10_l3B
    by_cases hi : i < l.length
    · rw [if_pos (by omega)]
      have hx : l[i]? = some l[i] := by simp [hi]
      rw [getI_of hx, Option.bind_some]
      have e0 : (T_extent_Set.mk s.n s.w) = s := rfl
      rw [e0, add_ok h, Option.bind_some]
      have e1 : IntKind.i64.wrap ((i : Int) + 1) = ((i + 1 : Nat) : Int) := by rw [i64_in _ (by omega)]; omega
      rw [e1]
      have hd : l.drop i = l[i] :: l.drop (i + 1) := List.drop_eq_getElem_cons hi
      by_cases hp : 0 ≤ l[i] ∧ l[i] < s.n
      · rw [if_pos hp]
        by_cases hin : In s l[i]
        · rw [if_pos hin]
          obtain ⟨s', g1, g2, g3, g4⟩ := ih (i + 1) s h hb (by omega) (by omega)
          refine ⟨s', g1, g2, g3, fun q => ?_⟩
          rw [g4 q, hd, List.mem_cons]
          constructor
          · rintro (a | ⟨a, b, c⟩)
            · exact .inl a
            · exact .inr ⟨a, b, .inr c⟩
          · rintro (a | ⟨a, b, (rfl | c)⟩)
            · exact .inl a
            · exact .inl hin
            · exact .inr ⟨a, b, c⟩
        · rw [if_neg hin]
          have hw := put_WF h hp.1 hp.2
          obtain ⟨s', g1, g2, g3, g4⟩ := ih (i + 1) (put s l[i]) hw hb (by omega) (by omega)
          refine ⟨s', g1, g2, g3, fun q => ?_⟩
          have hput : In (put s l[i]) q ↔ (In s q ∨ q = l[i]) := by
            unfold In
            have hn : (put s l[i]).n = s.n := rfl
            rw [hn]
            constructor
            · rintro ⟨a, b, c⟩
              rw [put_bit h hp.1 hp.2] at c
              simp only [Bool.or_eq_true, decide_eq_true_eq] at c
              rcases c with c | c
              · exact .inl ⟨a, b, c⟩
              · exact .inr (by omega)
            · rintro (⟨a, b, c⟩ | rfl)
              · refine ⟨a, b, ?_⟩
                rw [put_bit h hp.1 hp.2, c]; rfl
              · refine ⟨hp.1, hp.2, ?_⟩
                rw [put_bit h hp.1 hp.2]; simp
          rw [g4 q, hd, List.mem_cons, hput]
          have hn : (put s l[i]).n = s.n := rfl
          rw [hn]
          constructor
          · rintro ((a | rfl) | ⟨a, b, c⟩)
            · exact .inl a
            · exact .inr ⟨hp.1, hp.2, .inl rfl⟩
            · exact .inr ⟨a, b, .inr c⟩
          · rintro (a | ⟨a, b, (c | c)⟩)
            · exact .inl (.inl a)
            · exact .inl (.inr c)
            · exact .inr ⟨a, b, c⟩
      · rw [if_neg hp]
        obtain ⟨s', g1, g2, g3, g4⟩ := ih (i + 1) s h hb (by omega) (by omega)
        refine ⟨s', g1, g2, g3, fun q => ?_⟩
        rw [g4 q, hd, List.mem_cons]
        constructor
        · rintro (a | ⟨a, b, c⟩)
          · exact .inl a
          · exact .inr ⟨a, b, .inr c⟩
        · rintro (a | ⟨a, b, (rfl | c)⟩)
          · exact .inl a
          · exact absurd ⟨a, b⟩ hp
          · exact .inr ⟨a, b, c⟩
    · rw [if_neg (by omega)]
      refine ⟨s, rfl, h, rfl, fun q => ?_⟩
      rw [List.drop_eq_nil_of_le (by omega)]
      simp
theorem of_ok {n : Int} {l : List Int} (h0 : 1 ≤ n) (h1 : n ≤ 2048) (hl : l.length ≤ 9223372036854775807) : ∃ s, g10 n l = some (some s) ∧ WF s ∧ s.n = n ∧ ∀ q : Int, In s q ↔ (0 ≤ q ∧ q < n ∧ q ∈ l) := by
  obtain ⟨e1, e2⟩ := new_ok h0 h1
  obtain ⟨S0, hS⟩ : ∃ S0 : T_extent_Set, S0 = ⟨n, List.replicate ((n + 63) / 64).toNat 0⟩ := ⟨_, rfl⟩
  rw [← hS] at e1 e2
  unfold g10
  rw [e1, Option.bind_some]
  show ∃ s, (if (0 : Int) ≠ 0 then g10_j2 l S0 true else g10_j2 l S0 false) = some (some s) ∧ _
  rw [if_neg (by decide)]
  unfold g10_j2
  rw [if_neg (by decide), hS]
  rw [hS] at e2
  obtain ⟨s', g1, g2, g3, g4⟩ := of_loop (l := l) FUEL 0 _ e2 hl (by omega) (by unfold FUEL; omega)
  refine ⟨s', g1, g2, g3, fun q => ?_⟩
  rw [g4 q, List.drop_zero]
  constructor
  · rintro (⟨_, _, c⟩ | a)
    · exfalso
      unfold bitAt at c
      simp only at c
      rw [List.getD_eq_getElem?_getD, List.getElem?_replicate] at c
      split at c <;> simp at c
    · exact a
  · exact .inr
theorem live_ok : g8 = some true := by kernel_rfl
end Go.Proofs.YtgcielbnmlfjbaaDoor
