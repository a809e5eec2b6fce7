/- Plain laws of the reference of node: what a page bears, and what is read of one. -/
import Derived.Test.YtefjbhogpgihaaaNGb
import Derived.Test.YtefjbhogpgihaaaNR
set_option linter.unusedVariables false
set_option maxRecDepth 20000
namespace Go.Proofs.Ytefjbhogpgihaaa
open Go Go.SX
theorem be_two {v : Nat} (hv : v < 65536) : be 2 v = [((v / 256 : Nat) : Int), ((v % 256 : Nat) : Int)] := by
  simp only [be, List.nil_append, List.cons_append]
  rw [Nat.mod_eq_of_lt (show v / 256 < 256 by omega)]
theorem layKs_cons (k : List Int) (ks : List (List Int)) (c : Int) (cs : List Int) : layKs (k :: ks) (c :: cs) = tx k ++ (be 2 c.toNat ++ layKs ks cs) := rfl
theorem rlay_l1 {n : T_api_Node} (m : MayP n) (hl : n.Leaf = true) : ∀ (fuel i : Nat) (b : List Int), i ≤ n.Pairs.length → n.Pairs.length - i < fuel → b.length ≤ 1 + 51 * i →
    g61_l1 n fuel b (i : Int) = some (b ++ layPs (n.Pairs.drop i)) := by
  obtain ⟨v1, v2, v3, v4⟩ := m.leaf hl
  intro fuel
  induction fuel with
  | zero => intro i b _ h; omega
  | succ f ih =>
    intro i b hi hf hb
    show g61_l1B n (g61_l1 n f) b (i : Int) = _
    unfold g61_l1B
    by_cases h : i < n.Pairs.length
    · have hp := List.getElem_mem h
      have hk := m.pkey hp
      have hv := v1 _ hp
      rw [if_pos (by omega), getI_nat, List.getElem?_eq_getElem h, Option.bind_some, u8_in _ (by omega), appI_ok (by simp; omega), Option.bind_some, appI_ok (by simp; omega), Option.bind_some, u8_in _ (by omega), appI_ok (by simp; omega), Option.bind_some, appI_ok (by simp; omega), Option.bind_some, i64_in _ (by omega), show (i : Int) + 1 = ((i + 1 : Nat) : Int) by omega,
        ih (i + 1) _ (by omega) (by omega) (by simp; omega), List.drop_eq_getElem_cons h, layPs_cons]
      unfold layP tx
      simp only [List.append_assoc, List.cons_append, List.nil_append]
    · rw [if_neg (by omega), List.drop_of_length_le (by omega)]
      simp [layPs]
theorem rlay_l2 {n : T_api_Node} (m : MayP n) (hl : n.Leaf = false) : ∀ (fuel i : Nat) (b : List Int), i ≤ n.Keys.length → n.Keys.length - i < fuel → b.length ≤ 3 + 51 * i →
    g61_l2 n fuel b (i : Int) = some (b ++ layKs (n.Keys.drop i) (n.Kids.drop (i + 1))) := by
  obtain ⟨v1, v2, v3, v4, v5⟩ := m.inner hl
  intro fuel
  induction fuel with
  | zero => intro i b _ h; omega
  | succ f ih =>
    intro i b hi hf hb
    show g61_l2B n (g61_l2 n f) b (i : Int) = _
    unfold g61_l2B
    by_cases h : i < n.Keys.length
    · have hk := m.key (List.getElem_mem h)
      have hc := v1 _ (List.getElem_mem (show i + 1 < n.Kids.length by omega))
      obtain ⟨c, e⟩ : ∃ c : Nat, n.Kids[i + 1]'(by omega) = (c : Int) := ⟨(n.Kids[i + 1]'(by omega)).toNat, by omega⟩
      have d : Int.tdiv (c : Int) 256 = ((c / 256 : Nat) : Int) := by rw [Int.tdiv_eq_ediv_of_nonneg (by omega)]; rfl
      have md : Int.tmod (c : Int) 256 = ((c % 256 : Nat) : Int) := by rw [Int.tmod_eq_emod_of_nonneg (by omega)]; rfl
      rw [if_pos (by omega), getI_nat, List.getElem?_eq_getElem h, Option.bind_some, Option.bind_some, u8_in _ (by omega), appI_ok (by simp; omega), Option.bind_some, appI_ok (by simp; omega), Option.bind_some, i64_in ((i : Int) + 1) (by omega), show (i : Int) + 1 = ((i + 1 : Nat) : Int) by omega, getI_nat, List.getElem?_eq_getElem (show i + 1 < n.Kids.length by omega), Option.bind_some, Option.bind_some, e, d, md,
        i64_in _ (by omega), u8_in _ (by omega), u8_in _ (by omega), appI_ok (by simp; omega), Option.bind_some,
        ih (i + 1) _ (by omega) (by omega) (by simp; omega), List.drop_eq_getElem_cons h, List.drop_eq_getElem_cons (show i + 1 < n.Kids.length by omega)]
      rw [layKs_cons, e, Int.toNat_natCast, be_two (by omega)]
      unfold tx
      simp only [List.append_assoc, List.cons_append, List.nil_append]
    · rw [if_neg (by omega), List.drop_of_length_le (by omega)]
      simp [layKs]
theorem rlay_ok {n : T_api_Node} (m : MayP n) : g61 n = some (layN n) := by
  unfold g61 layN
  cases hl : n.Leaf with
  | true =>
    have := (m.leaf hl).2.1
    rw [if_pos rfl, u8_in _ (by omega), show (0 : Int) = ((0 : Nat) : Int) from rfl, rlay_l1 m hl FUEL 0 _ (by omega) (by unfold FUEL; omega) (by simp), List.drop_zero]
    rfl
  | false =>
    obtain ⟨v1, v2, v3, v4, v5⟩ := m.inner hl
    obtain ⟨k0, ks, hk⟩ : ∃ k0 ks, n.Kids = k0 :: ks := by
      cases h : n.Kids with
      | nil => rw [h] at v5; simp at v5
      | cons a b => exact ⟨a, b, rfl⟩
    have hc := v1 k0 (by rw [hk]; exact List.mem_cons_self ..)
    obtain ⟨c, rfl⟩ : ∃ c : Nat, k0 = (c : Int) := ⟨k0.toNat, by omega⟩
    have d : Int.tdiv (c : Int) 256 = ((c / 256 : Nat) : Int) := by rw [Int.tdiv_eq_ediv_of_nonneg (by omega)]; rfl
    have md : Int.tmod (c : Int) 256 = ((c % 256 : Nat) : Int) := by rw [Int.tmod_eq_emod_of_nonneg (by omega)]; rfl
    have g0 : getI n.Kids 0 = some (c : Int) := by rw [hk]; rfl
    rw [if_neg (by decide), g0, Option.bind_some, Option.bind_some, d, md, i64_in _ (by omega), u8_in _ (by omega), u8_in _ (by omega), u8_in _ (by omega), show (0 : Int) = ((0 : Nat) : Int) from rfl, rlay_l2 m hl FUEL 0 _ (by omega) (by unfold FUEL; omega) (by simp), List.drop_zero, hk]
    simp only [Bool.false_eq_true, if_false, List.headD_cons, List.tail_cons, Int.toNat_natCast, List.drop_succ_cons, List.drop_zero]
    rw [be_two (by omega)]
    simp only [List.append_assoc, List.cons_append, List.nil_append]
theorem rcheckN_ok {n : T_api_Node} (hf : Fine n) : g27 n = some (chkN n) := by
  unfold g27 g28 chkN
  rw [refMay_ok hf, Option.bind_some, Option.bind_some]
  by_cases h : mayB n = true
  · have m := (mayB_iff n).1 h
    rw [if_neg (by simp [h]), if_neg (by simp [h]), rlay_ok m, Option.bind_some, Option.bind_some, layN_len m, if_pos h]
    by_cases c : 240 < sizeN n
    · rw [if_pos (by omega), if_pos c]
    · rw [if_neg (by omega), if_neg c]
  · rw [if_pos h, if_neg h]
theorem rnfill {n : T_api_Node} : ∀ (k fuel : Nat) (x : List Int), x.length + k = 240 → k < fuel → g31_l1 n fuel x = some (kindN n, x ++ List.replicate k 0, 0) := by
  intro k
  induction k with
  | zero =>
    intro fuel x hk hf
    obtain ⟨f, rfl⟩ : ∃ f, fuel = f + 1 := ⟨fuel - 1, by omega⟩
    show g31_l1B n (g31_l1 n f) x = _
    unfold g31_l1B kindN
    rw [if_neg (by omega), List.replicate_zero, List.append_nil]
    cases n.Leaf <;> rfl
  | succ k ih =>
    intro fuel x hk hf
    obtain ⟨f, rfl⟩ : ∃ f, fuel = f + 1 := ⟨fuel - 1, by omega⟩
    show g31_l1B n (g31_l1 n f) x = _
    unfold g31_l1B
    rw [if_pos (by omega), appI_ok (by simp; omega), Option.bind_some, ih f (x ++ [0]) (by simp; omega) (by omega), List.append_assoc]
    rfl
theorem rnput_any {n : T_api_Node} (hf : Fine n) : g31 n = some (if chkN n = 0 then (kindN n, padN n, 0) else (0, [], chkN n)) := by
  unfold g31
  rw [rcheckN_ok hf, Option.bind_some]
  by_cases c : chkN n = 0
  · obtain ⟨m, hs⟩ := chkN_zero c
    have := layN_len m
    rw [if_neg (by omega), if_pos c, rlay_ok m, Option.bind_some, rnfill (240 - (layN n).length) FUEL (layN n) (by omega) (by unfold FUEL; omega)]
    rfl
  · rw [if_pos c, if_neg c]
/-! ### The taker -/
theorem one_any {b : List Int} (hb : B8 b) (hl : b.length ≤ 1000000) {at_ : Nat} (h : at_ ≤ 1000000) : ∃ x : Nat, g73 ⟨b, (at_ : Int)⟩ = some ((x : Int), ⟨b, ((at_ + 1 : Nat) : Int)⟩) ∧ x < 256 ∧ (∀ c r, b.drop at_ = c :: r → (x : Int) = c) := by
  have e1 : IntKind.i64.wrap ((at_ : Int) + 1) = ((at_ + 1 : Nat) : Int) := by rw [i64_in _ (by omega)]; omega
  unfold g73
  simp only
  rw [e1]
  by_cases c : ((at_ + 1 : Nat) : Int) > (b.length : Int)
  · rw [if_pos c]
    refine ⟨0, rfl, by omega, fun c r e => ?_⟩
    rw [List.drop_of_length_le (by omega)] at e
    cases e
  · have hlt : at_ < b.length := by omega
    have e2 : IntKind.i64.wrap (((at_ + 1 : Nat) : Int) - 1) = (at_ : Int) := by rw [i64_in _ (by omega)]; omega
    have hx := hb.get (List.getElem?_eq_getElem hlt)
    rw [if_neg c, e2, getI_nat, List.getElem?_eq_getElem hlt, Option.bind_some, i64_in _ (by omega)]
    refine ⟨b[at_].toNat, by congr 2; omega, by omega, fun c r e => ?_⟩
    rw [List.drop_eq_getElem_cons hlt] at e
    have := (List.cons.inj e).1
    omega
theorem many_loop {b : List Int} (hb : B8 b) (hl : b.length ≤ 1000000) {n : Nat} (hn : n < 256) : ∀ (fuel i at_ : Nat) (acc : List Int), i ≤ n → n - i < fuel → acc.length = i → at_ + n ≤ 1000000 →
    ∃ k : List Int, g74_l1 (n : Int) fuel acc (i : Int) b ((at_ + i : Nat) : Int) = some (acc ++ k, ⟨b, ((at_ + n : Nat) : Int)⟩) ∧ B8 k ∧ k.length = n - i ∧ (∀ t r, b.drop (at_ + i) = t ++ r → t.length = n - i → k = t) := by
  intro fuel
  induction fuel with
  | zero => intro i _ _ _ h; omega
  | succ f ih =>
    intro i at_ acc hi hf ha hat
    show ∃ k, g74_l1B (n : Int) (g74_l1 (n : Int) f) acc (i : Int) b ((at_ + i : Nat) : Int) = _ ∧ _
    unfold g74_l1B
    by_cases h : i < n
    · obtain ⟨x, e, hx, hd⟩ := one_any hb hl (at_ := at_ + i) (by omega)
      obtain ⟨k, e2, k8, kl, kd⟩ := ih (i + 1) at_ (acc ++ [(x : Int)]) (by omega) (by omega) (by simp; omega) hat
      rw [if_pos (by omega), e, Option.bind_some]
      simp only
      rw [u8_in _ (by omega), appI_ok (by simp; omega), Option.bind_some, i64_in _ (by omega), show (i : Int) + 1 = ((i + 1 : Nat) : Int) by omega, show at_ + i + 1 = at_ + (i + 1) by omega, e2]
      refine ⟨(x : Int) :: k, by rw [List.append_assoc]; rfl, B8.cons (by omega) k8, by simp; omega, fun t r et tl => ?_⟩
      obtain ⟨c, t', rfl⟩ : ∃ c t', t = c :: t' := by
        cases t with
        | nil => simp at tl; omega
        | cons c t' => exact ⟨c, t', rfl⟩
      rw [hd c (t' ++ r) et, kd t' r (by rw [show at_ + (i + 1) = at_ + i + 1 by omega, ← List.drop_drop, et]; rfl) (by simp at tl; omega)]
    · obtain rfl : i = n := by omega
      rw [if_neg (by omega)]
      refine ⟨[], by rw [List.append_nil], B8.nil, by simp, fun t r _ tl => ?_⟩
      exact (List.eq_nil_of_length_eq_zero (by omega)).symm
theorem many_any {b : List Int} (hb : B8 b) (hl : b.length ≤ 1000000) {n at_ : Nat} (hn : n < 256) (hat : at_ + n ≤ 1000000) :
    ∃ k : List Int, g74 ⟨b, (at_ : Int)⟩ (n : Int) = some (k, ⟨b, ((at_ + n : Nat) : Int)⟩) ∧ B8 k ∧ k.length = n ∧ (∀ t r, b.drop at_ = t ++ r → t.length = n → k = t) := by
  obtain ⟨k, h1, h2, h3, h4⟩ := many_loop hb hl hn FUEL 0 at_ [] (by omega) (by unfold FUEL; omega) rfl hat
  exact ⟨k, h1, h2, h3, h4⟩
/-! ### Get -/
def ResN (kind : Int) (b : List Int) (r : T_api_Node × Int) : Prop := r = (N0, 100) ∨ ∃ n, r = (n, 0) ∧ Fine n ∧ Raw n ∧ kind = kindN n ∧ chkN n = 0 ∧ b = padN n
theorem rnget_end {b : List Int} (hb : B8 b) {n : T_api_Node} (hf : Fine n) (hr : Raw n) : ∃ res, ((g31 n).bind fun x => if x.2.2 ≠ 0 then some (N0, 100) else if (strOfNums x.2.1).toList ≠ (strOfNums b).toList then some (N0, 100) else some (n, 0)) = some res ∧ ResN (kindN n) b res ∧ (chkN n = 0 → b = padN n → res = (n, 0)) := by
  rw [rnput_any hf, Option.bind_some]
  by_cases c : chkN n = 0
  · have p8 := padN_8 (chkN_zero c).1 hr
    rw [if_pos c, if_neg (by simp)]
    by_cases e : padN n = b
    · rw [if_neg (by simp [e])]
      exact ⟨_, rfl, .inr ⟨n, rfl, hf, hr, rfl, c, e.symm⟩, fun _ _ => rfl⟩
    · rw [if_pos (fun hh => e ((str_eq p8 hb).1 hh))]
      exact ⟨_, rfl, .inl rfl, fun _ h => absurd h.symm e⟩
  · rw [if_neg c, if_pos c]
    exact ⟨_, rfl, .inl rfl, fun h => absurd h c⟩
theorem rnget_leaf {b : List Int} (hb : B8 b) (hl : b.length ≤ 1000000) {m : Nat} (hm : m < 256) (T : T_incipitref10_taker) : ∀ (fuel i at_ : Nat) (acc : List T_api_Pair), i ≤ m → m - i < fuel → acc.length = i → at_ ≤ 1 + 1000 * i → (∀ p ∈ acc, B8 p.Key ∧ B8 p.Val) →
    ∃ res, g33_l3 3 b ((m : Int), T) fuel (i : Int) b (at_ : Int) acc [] [] = some res ∧ ResN 3 b res ∧
      (∀ n rest, Fine n → n.Leaf = true → n.Keys = [] → n.Kids = [] → chkN n = 0 → b = padN n → m = n.Pairs.length → acc = n.Pairs.take i → b.drop at_ = layPs (n.Pairs.drop i) ++ rest → res = (n, 0)) := by
  intro fuel
  induction fuel with
  | zero => intro i _ _ _ h; omega
  | succ f ih =>
    intro i at_ acc hi hf ha hat h8
    show ∃ res, g33_l3B 3 b ((m : Int), T) (g33_l3 3 b ((m : Int), T) f) (i : Int) b (at_ : Int) acc [] [] = some res ∧ _
    unfold g33_l3B g33_j5 g33_j4
    simp only
    by_cases h : i < m
    · obtain ⟨x, e1, hx, d1⟩ := one_any hb hl (at_ := at_) (by omega)
      obtain ⟨k, e2, k8, kl, kd⟩ := many_any hb hl (n := x) (at_ := at_ + 1) hx (by omega)
      obtain ⟨y, e3, hy, d3⟩ := one_any hb hl (at_ := at_ + 1 + x) (by omega)
      obtain ⟨v, e4, v8, vl, vd⟩ := many_any hb hl (n := y) (at_ := at_ + 1 + x + 1) hy (by omega)
      obtain ⟨res, r1, r2, r3⟩ := ih (i + 1) (at_ + 1 + x + 1 + y) (acc ++ [⟨k, v⟩]) (by omega) (by omega) (by simp; omega) (by omega) (fun p hp => by
        rcases List.mem_append.1 hp with hp | hp
        · exact h8 p hp
        · rw [List.mem_singleton.1 hp]; exact ⟨k8, v8⟩)
      rw [if_pos (by omega), e1, Option.bind_some]
      simp only
      rw [e2, Option.bind_some, if_pos trivial]
      simp only
      rw [e3, Option.bind_some]
      simp only
      rw [e4, Option.bind_some, appI_ok (by simp; omega), Option.bind_some, i64_in _ (by omega), show (i : Int) + 1 = ((i + 1 : Nat) : Int) by omega]
      refine ⟨res, r1, r2, fun n rest q1 q2 q3 q4 q5 q6 q7 q8 q9 => ?_⟩
      have hlt : i < n.Pairs.length := by omega
      rw [List.drop_eq_getElem_cons hlt, layPs_cons] at q9
      unfold layP tx at q9
      simp only [List.append_assoc, List.cons_append] at q9
      have ex : x = n.Pairs[i].Key.length := by have := d1 _ _ q9; omega
      have q10 : b.drop (at_ + 1) = n.Pairs[i].Key ++ ((n.Pairs[i].Val.length : Int) :: (n.Pairs[i].Val ++ (layPs (n.Pairs.drop (i + 1)) ++ rest))) := by rw [← List.drop_drop, q9]; rfl
      have ek := kd _ _ q10 ex.symm
      have q11 : b.drop (at_ + 1 + x) = (n.Pairs[i].Val.length : Int) :: (n.Pairs[i].Val ++ (layPs (n.Pairs.drop (i + 1)) ++ rest)) := by rw [← List.drop_drop, q10, ex, List.drop_left]
      have ey : y = n.Pairs[i].Val.length := by have := d3 _ _ q11; omega
      have q12 : b.drop (at_ + 1 + x + 1) = n.Pairs[i].Val ++ (layPs (n.Pairs.drop (i + 1)) ++ rest) := by rw [← List.drop_drop, q11]; rfl
      have ev := vd _ _ q12 ey.symm
      have q13 : b.drop (at_ + 1 + x + 1 + y) = layPs (n.Pairs.drop (i + 1)) ++ rest := by rw [← List.drop_drop, q12, ey, List.drop_left]
      refine r3 n rest q1 q2 q3 q4 q5 q6 q7 ?_ q13
      rw [← List.take_append_getElem hlt, ← q8, ek, ev]
    · obtain rfl : i = m := by omega
      rw [if_neg (by omega)]
      obtain ⟨res, r1, r2, r3⟩ := rnget_end hb (n := ⟨true, acc, [], []⟩) ⟨by show acc.length < _; omega, by show (0 : Nat) < _; omega, by show (0 : Nat) < _; omega⟩ ⟨h8, fun k hk => by cases hk⟩
      refine ⟨res, r1, r2, fun n rest q1 q2 q3 q4 q5 q6 q7 q8 q9 => ?_⟩
      have en : (⟨true, acc, [], []⟩ : T_api_Node) = n := by
        obtain ⟨a1, a2, a3, a4⟩ := n
        simp only at q2 q3 q4 q7 q8
        rw [q2, q3, q4, q8, q7, List.take_of_length_le (Nat.le_refl _)]
      rw [← en]
      rw [← en] at q5 q6
      exact r3 q5 q6
theorem rnget_inner {b : List Int} (hb : B8 b) (hl : b.length ≤ 1000000) {m : Nat} (hm : m < 256) (T : T_incipitref10_taker) : ∀ (fuel i at_ : Nat) (ks : List (List Int)) (cs : List Int), i ≤ m → m - i < fuel → ks.length = i → cs.length = i + 1 → at_ ≤ 3 + 1000 * i → (∀ k ∈ ks, B8 k) →
    ∃ res, g33_l3 4 b ((m : Int), T) fuel (i : Int) b (at_ : Int) [] ks cs = some res ∧ ResN 4 b res ∧
      (∀ n rest, Fine n → n.Leaf = false → n.Pairs = [] → n.Kids.length = n.Keys.length + 1 → (∀ c ∈ n.Kids, 2 ≤ c ∧ c < 2048) → chkN n = 0 → b = padN n → m = n.Keys.length → ks = n.Keys.take i → cs = n.Kids.take (i + 1) → b.drop at_ = layKs (n.Keys.drop i) (n.Kids.drop (i + 1)) ++ rest → res = (n, 0)) := by
  intro fuel
  induction fuel with
  | zero => intro i _ _ _ _ h; omega
  | succ f ih =>
    intro i at_ ks cs hi hf ha hac hat h8
    show ∃ res, g33_l3B 4 b ((m : Int), T) (g33_l3 4 b ((m : Int), T) f) (i : Int) b (at_ : Int) [] ks cs = some res ∧ _
    unfold g33_l3B g33_j4
    simp only
    by_cases h : i < m
    · obtain ⟨x, e1, hx, d1⟩ := one_any hb hl (at_ := at_) (by omega)
      obtain ⟨k, e2, k8, kl, kd⟩ := many_any hb hl (n := x) (at_ := at_ + 1) hx (by omega)
      obtain ⟨y, e3, hy, d3⟩ := one_any hb hl (at_ := at_ + 1 + x) (by omega)
      obtain ⟨z, e4, hz, d4⟩ := one_any hb hl (at_ := at_ + 1 + x + 1) (by omega)
      obtain ⟨res, r1, r2, r3⟩ := ih (i + 1) (at_ + 1 + x + 1 + 1) (ks ++ [k]) (cs ++ [256 * (y : Int) + (z : Int)]) (by omega) (by omega) (by simp; omega) (by simp; omega) (by omega) (fun p hp => by
        rcases List.mem_append.1 hp with hp | hp
        · exact h8 p hp
        · rw [List.mem_singleton.1 hp]; exact k8)
      rw [if_pos (by omega), e1, Option.bind_some]
      simp only
      rw [e2, Option.bind_some, if_neg (by decide), appI_ok (by simp; omega), Option.bind_some]
      simp only
      rw [e3, Option.bind_some]
      simp only
      rw [e4, Option.bind_some, Option.bind_some]
      simp only
      rw [i64_in (256 * (y : Int)) (by omega), i64_in _ (by omega), appI_ok (by simp; omega), Option.bind_some, i64_in _ (by omega), show (i : Int) + 1 = ((i + 1 : Nat) : Int) by omega]
      refine ⟨res, r1, r2, fun n rest q1 q2 q3 q4 qk q5 q6 q7 q8 qc q9 => ?_⟩
      have hlt : i < n.Keys.length := by omega
      have hlt2 : i + 1 < n.Kids.length := by omega
      have hc := qk _ (List.getElem_mem hlt2)
      obtain ⟨c, ec⟩ : ∃ c : Nat, n.Kids[i + 1] = (c : Int) := ⟨(n.Kids[i + 1]).toNat, by omega⟩
      rw [List.drop_eq_getElem_cons hlt, List.drop_eq_getElem_cons hlt2] at q9
      rw [layKs_cons, ec, Int.toNat_natCast, be_two (by omega)] at q9
      unfold tx at q9
      simp only [List.append_assoc, List.cons_append, List.nil_append] at q9
      have ex : x = n.Keys[i].length := by have := d1 _ _ q9; omega
      have q10 : b.drop (at_ + 1) = n.Keys[i] ++ (((c / 256 : Nat) : Int) :: ((c % 256 : Nat) : Int) :: (layKs (n.Keys.drop (i + 1)) (n.Kids.drop (i + 1 + 1)) ++ rest)) := by rw [← List.drop_drop, q9]; rfl
      have ek := kd _ _ q10 ex.symm
      have q11 : b.drop (at_ + 1 + x) = ((c / 256 : Nat) : Int) :: ((c % 256 : Nat) : Int) :: (layKs (n.Keys.drop (i + 1)) (n.Kids.drop (i + 1 + 1)) ++ rest) := by rw [← List.drop_drop, q10, ex, List.drop_left]
      have ey := d3 _ _ q11
      have q12 : b.drop (at_ + 1 + x + 1) = ((c % 256 : Nat) : Int) :: (layKs (n.Keys.drop (i + 1)) (n.Kids.drop (i + 1 + 1)) ++ rest) := by rw [← List.drop_drop, q11]; rfl
      have ez := d4 _ _ q12
      have q13 : b.drop (at_ + 1 + x + 1 + 1) = layKs (n.Keys.drop (i + 1)) (n.Kids.drop (i + 1 + 1)) ++ rest := by rw [← List.drop_drop, q12]; rfl
      refine r3 n rest q1 q2 q3 q4 qk q5 q6 q7 ?_ ?_ q13
      · rw [← List.take_append_getElem hlt, ← q8, ek]
      · rw [← List.take_append_getElem hlt2, ← qc, ec]
        congr 2
        omega
    · obtain rfl : i = m := by omega
      rw [if_neg (by omega)]
      obtain ⟨res, r1, r2, r3⟩ := rnget_end hb (n := ⟨false, [], ks, cs⟩) ⟨by show (0 : Nat) < _; omega, by show ks.length < _; omega, by show cs.length < _; omega⟩ ⟨fun p hp => (by cases hp), h8⟩
      refine ⟨res, r1, r2, fun n rest q1 q2 q3 q4 qk q5 q6 q7 q8 qc q9 => ?_⟩
      have en : (⟨false, [], ks, cs⟩ : T_api_Node) = n := by
        obtain ⟨a1, a2, a3, a4⟩ := n
        simp only at q2 q3 q4 q7 q8 qc
        rw [q2, q3, q8, qc, q7, List.take_of_length_le (Nat.le_refl _), List.take_of_length_le (by omega)]
      rw [← en]
      rw [← en] at q5 q6
      exact r3 q5 q6
end Go.Proofs.Ytefjbhogpgihaaa
