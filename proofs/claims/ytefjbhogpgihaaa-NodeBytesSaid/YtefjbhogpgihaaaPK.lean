/- Plain laws of pack: numbers and texts put and taken. -/
import Derived.Test.YtefjbhogpgihaaaG
import Derived.Test.YtefjbhogpgihaaaSXy
set_option linter.unusedVariables false
set_option maxRecDepth 20000
namespace Go.Proofs.Ytefjbhogpgihaaa
open Go Go.SX
theorem FUEL_big : 140737488355328 < FUEL := by unfold FUEL; decide
theorem set_mid {b t : List Int} {c d : Int} {k : Nat} (h : k = b.length) : (b ++ d :: t).set k c = b ++ c :: t := by
  subst h
  rw [List.set_append_right _ _ (Nat.le_refl _), Nat.sub_self]
  rfl
theorem get_mid {b t : List Int} {d : Int} {k : Nat} (h : k = b.length) : (b ++ d :: t)[k]? = some d := by
  subst h
  rw [List.getElem?_append_right (Nat.le_refl _), Nat.sub_self]
  rfl
theorem wide_loop {b y : List Int} {v n : Nat} (hv : v < 18446744073709551616) (hn : n ≤ 8) (hy : y.length = b.length + n) (hb : b.length ≤ 1000000000) : ∀ (fuel i : Nat), i ≤ n → n - i < fuel →
    g97_l1 b (v : Int) (n : Int) y fuel (i : Int) (b ++ (List.replicate (n - i) 0 ++ be i v)) = some (b ++ be n v) := by
  intro fuel
  induction fuel with
  | zero => intro i _ h; omega
  | succ f ih =>
    intro i hi hf
    show g97_l1B b (v : Int) (n : Int) y (g97_l1 b (v : Int) (n : Int) y f) (i : Int) _ = _
    unfold g97_l1B
    by_cases h : i < n
    · have e1 : IntKind.u64.wrap (IntKind.i64.wrap (8 * (i : Int))) = ((8 * i : Nat) : Int) := by
        rw [i64_in _ (by omega), u64_in _ (by omega)]; omega
      have e2 : IntKind.i64.wrap (IntKind.i64.wrap ((n : Int) - 1) - (i : Int)) = ((n - 1 - i : Nat) : Int) := by
        rw [i64_in ((n : Int) - 1) (by omega), i64_in _ (by omega)]; omega
      have e3 : IntKind.i64.wrap ((i : Int) + 1) = ((i + 1 : Nat) : Int) := by rw [i64_in _ (by omega)]; omega
      have e4 : ((b.length : Int) + ((n - 1 - i : Nat) : Int)) = ((b.length + (n - 1 - i) : Nat) : Int) := by omega
      have e5 : shrI .u64 (v : Int) ((8 * i : Nat) : Int) = ((v / 256 ^ i : Nat) : Int) := by
        rw [shrI_nat (show 8 * i ≤ IntKind.u64.bits by show 8 * i ≤ 64; omega), show (2 : Nat) ^ (8 * i) = 256 ^ i by rw [Nat.pow_mul]]
      have e6 : List.replicate (n - i) (0 : Int) = List.replicate (n - 1 - i) 0 ++ [0] := by
        rw [← List.replicate_succ', show n - 1 - i + 1 = n - i by omega]
      have hlen : (b ++ List.replicate (n - 1 - i) (0 : Int)).length = b.length + (n - 1 - i) := by simp
      have e7 : (b ++ (List.replicate (n - i) (0 : Int) ++ be i v)) = (b ++ List.replicate (n - 1 - i) (0 : Int)) ++ 0 :: be i v := by rw [e6]; simp
      rw [if_pos (by omega), e1, if_pos (by omega), Option.bind_some, e5, e2, if_pos (by omega), e4, getI_nat, e7, get_mid hlen.symm, Option.bind_some, setI_nat (by rw [List.length_append, hlen]; simp), Option.bind_some, e3,
        set_mid hlen.symm, wrap_nat rfl]
      have := ih (i + 1) (by omega) (by omega)
      rw [be_high, ← List.append_assoc, show n - (i + 1) = n - 1 - i by omega] at this
      exact this
    · obtain rfl : i = n := by omega
      rw [if_neg (by omega), Nat.sub_self]
      simp
theorem wide_ok {b : List Int} {v n : Nat} (hv : v < 18446744073709551616) (hn : n ≤ 8) (hb : b.length ≤ 1000000000) : g97 b (v : Int) (n : Int) = some (b ++ be n v) := by
  unfold g97
  have e1 : IntKind.i64.wrap ((b.length : Int) + (n : Int)) = ((b.length + n : Nat) : Int) := by rw [i64_in _ (by omega)]; omega
  rw [e1, repI_nat (by omega), Option.bind_some, Option.bind_some]
  have e2 : copyI (List.replicate (b.length + n) (0 : Int)) 0 ((List.replicate (b.length + n) (0 : Int)).length : Int) b = b ++ List.replicate n 0 := by
    unfold copyI
    simp only [List.length_replicate, Int.toNat_zero, List.take_zero, List.nil_append, Int.sub_zero, Int.toNat_natCast, Nat.zero_add]
    rw [List.take_of_length_le (by omega), List.drop_replicate]
    congr 2
    omega
  rw [e2]
  have hlen : (b ++ List.replicate n (0 : Int)).length = b.length + n := by simp
  rw [if_pos (by rw [hlen]; omega)]
  have := wide_loop (b := b) (y := b ++ List.replicate n 0) hv hn hlen hb FUEL 0 (by omega) (by unfold FUEL; omega)
  simpa [be] using this
theorem u16_ok {b : List Int} {v : Nat} (hv : v < 65536) (hb : b.length ≤ 1000000000) : g68 b (v : Int) = some (b ++ be 2 v) := by
  unfold g68
  rw [u64_in _ (by omega), show (2 : Int) = ((2 : Nat) : Int) from rfl, wide_ok (by omega) (by omega) hb]
  rfl
/-! ### What is taken -/
theorem same49 : g113 = g113_1 := rfl
theorem same51 : g115 = g115_1 := rfl
theorem same48 : g112 = g112_1 := by
  have h : ∀ x n, g112_l1 x n = g112_1_l1 x n := by
    intro x n
    induction n with
    | zero => rfl
    | succ n ih => funext a b; show g112_l1B x _ a b = g112_1_l1B x _ a b; rw [ih]; rfl
  funext p q
  unfold g112 g112_1
  have e : (fun x => g112_l1 x FUEL 0 0) = fun x => g112_1_l1 x FUEL 0 0 := funext fun x => by rw [h]
  rw [e, same51]
theorem read_ok {b : List Int} (hb : b.length ≤ 1000000000) : g69 b = some ⟨b, 0, true⟩ := by
  unfold g69
  have e1 : IntKind.i64.wrap ((b.length : Int) + 0) = ((b.length : Nat) : Int) := by rw [i64_in _ (by omega)]; omega
  rw [e1, repI_nat (by omega), Option.bind_some, Option.bind_some]
  have e2 : copyI (List.replicate b.length (0 : Int)) 0 ((List.replicate b.length (0 : Int)).length : Int) b = b := by
    unfold copyI
    simp only [List.length_replicate, Int.toNat_zero, List.take_zero, List.nil_append, Int.sub_zero, Int.toNat_natCast, Nat.zero_add]
    rw [List.take_of_length_le (by omega), List.drop_replicate]
    simp
  rw [e2, if_pos (by omega)]
theorem none_ok (r : T_pack_Reader) : g113_1 r = some (decide (¬ (r.made = true ∧ r.err = 0))) := by
  unfold g113_1
  cases h : r.made <;> simp
theorem next_ok {b : List Int} {n : Nat} (h : n ≤ b.length) : g115_1 ⟨b, 0, true⟩ (n : Int) = some (b.take n, ⟨b.drop n, 0, true⟩) := by
  unfold g115_1
  rw [none_ok, Option.bind_some, if_neg (by simp), if_neg (by simp; omega), if_pos (by simp; omega)]
  simp only
  rw [cutI_to h, Option.bind_some, cutI_from h, Option.bind_some]
theorem next_short {b : List Int} {n : Nat} (h : b.length < n) : g115_1 ⟨b, 0, true⟩ (n : Int) = some ([], ⟨b, 10, true⟩) := by
  unfold g115_1
  rw [none_ok, Option.bind_some, if_neg (by simp), if_pos (by simp; omega)]
  rfl
theorem next_err {b : List Int} {n e : Int} (h : e ≠ 0) : g115_1 ⟨b, e, true⟩ n = some ([], ⟨b, e, true⟩) := by
  unfold g115_1
  rw [none_ok, Option.bind_some, if_pos (by simp [h])]
theorem number_fold {l : List Int} (hl : B8 l) (h8 : l.length ≤ 8) (r : T_pack_Reader) : g112_1_l1 (l, r) FUEL 0 0 = some (((ofbe l : Nat) : Int), r) := by
  have key : ∀ (fuel i : Nat), i ≤ l.length → l.length - i < fuel → g112_1_l1 (l, r) fuel ((ofbe (l.take i) : Nat) : Int) (i : Int) = some (((ofbe l : Nat) : Int), r) := by
    intro fuel
    induction fuel with
    | zero => intro i _ h; omega
    | succ f ih =>
      intro i hi hf
      show g112_1_l1B (l, r) (g112_1_l1 (l, r) f) _ _ = _
      unfold g112_1_l1B
      simp only
      by_cases h : i < l.length
      · have hx := List.getElem?_eq_getElem h
        have hb := hl.get hx
        have hlt := ofbe_lt (hl.take i)
        rw [List.length_take, Nat.min_eq_left hi] at hlt
        have h256 : 256 ^ i ≤ 256 ^ 7 := Nat.pow_le_pow_right (by decide) (by omega)
        have e8 : (8 : Int) = ((8 : Nat) : Int) := rfl
        rw [if_pos (by omega), getI_nat, hx, Option.bind_some, e8, shlI_nat (k := .u64) rfl (by decide), i64_in _ (by omega), u64_in _ (by omega)]
        have e9 : l[i] = ((l[i].toNat : Nat) : Int) := by omega
        have hm : ofbe (l.take i) * 2 ^ 8 % 2 ^ IntKind.u64.bits = 2 ^ 8 * ofbe (l.take i) := by
          rw [Nat.mod_eq_of_lt (by show _ < 18446744073709551616; omega)]; omega
        rw [hm, e9, orI_nat (k := .u64) rfl (by show _ < 18446744073709551616; omega) (by show _ < 18446744073709551616; omega)]
        have e10 : 2 ^ 8 * ofbe (l.take i) ||| l[i].toNat = ofbe (l.take (i + 1)) := by
          rw [← Nat.two_pow_add_eq_or_of_lt (by omega), List.take_succ_eq_append_getElem h, ofbe_append]; omega
        rw [e10]
        have := ih (i + 1) (by omega) (by omega)
        rw [show (((i + 1 : Nat)) : Int) = (i : Int) + 1 by omega] at this
        exact this
      · obtain rfl : i = l.length := by omega
        rw [if_neg (by omega), List.take_length]
  have := key FUEL 0 (by omega) (by unfold FUEL; omega)
  simpa [ofbe] using this
theorem number_ok {b : List Int} {n : Nat} (hb : B8 b) (hn : n ≤ 8) (h : n ≤ b.length) : g112_1 ⟨b, 0, true⟩ (n : Int) = some (((ofbe (b.take n) : Nat) : Int), ⟨b.drop n, 0, true⟩) := by
  unfold g112_1
  rw [next_ok h, Option.bind_some, number_fold (hb.take n) (by rw [List.length_take]; omega)]
theorem number_short {b : List Int} {n : Nat} (h : b.length < n) : g112_1 ⟨b, 0, true⟩ (n : Int) = some (0, ⟨b, 10, true⟩) := by
  unfold g112_1
  rw [next_short h, Option.bind_some, number_fold B8.nil (by simp)]
  rfl
theorem number_err {b : List Int} {n e : Int} (h : e ≠ 0) : g112_1 ⟨b, e, true⟩ n = some (0, ⟨b, e, true⟩) := by
  unfold g112_1
  rw [next_err h, Option.bind_some, number_fold B8.nil (by simp)]
  rfl
theorem copy_mid {a m c ys : List Int} {l h : Int} (hl : l = (a.length : Int)) (hh : h = ((a.length + m.length : Nat) : Int)) (hy : ys.length ≤ m.length) : copyI (a ++ (m ++ c)) l h ys = a ++ (ys ++ (m.drop ys.length ++ c)) := by
  subst hl hh
  unfold copyI
  rw [Int.toNat_natCast, List.take_left, show (((a.length + m.length : Nat) : Int) - (a.length : Int)).toNat = m.length by omega, List.take_of_length_le hy, Nat.min_eq_right hy, List.drop_append, List.append_assoc]
  rw [List.drop_of_length_le (by omega), List.nil_append, show a.length + ys.length - a.length = ys.length by omega, List.drop_append, show ys.length - m.length = 0 by omega]
  rfl
def tx (t : List Int) : List Int := (t.length : Int) :: t
theorem tx_len (t : List Int) : (tx t).length = t.length + 1 := by simp [tx]
theorem tx_8 {t : List Int} (h : B8 t) (hl : t.length ≤ 255) : B8 (tx t) := B8.cons (by omega) h
theorem text_ok {b t : List Int} (ht : t.length ≤ 255) (hb : b.length ≤ 1000000000) : g96 b t = some (b ++ tx t, 0) := by
  unfold g96
  have e1 : IntKind.i64.wrap ((b.length : Int) + IntKind.i64.wrap (1 + (t.length : Int))) = ((b.length + (1 + t.length) : Nat) : Int) := by
    rw [i64_in (1 + (t.length : Int)) (by omega), i64_in _ (by omega)]; omega
  rw [if_neg (by omega), e1, Option.bind_some, repI_nat (by omega), Option.bind_some, Option.bind_some]
  have e2 : copyI (List.replicate (b.length + (1 + t.length)) (0 : Int)) 0 ((List.replicate (b.length + (1 + t.length)) (0 : Int)).length : Int) b = b ++ 0 :: List.replicate t.length 0 := by
    unfold copyI
    simp only [List.length_replicate, Int.toNat_zero, List.take_zero, List.nil_append, Int.sub_zero, Int.toNat_natCast, Nat.zero_add]
    rw [List.take_of_length_le (by omega), List.drop_replicate, Nat.min_eq_right (by omega), show b.length + (1 + t.length) - b.length = t.length + 1 by omega, List.replicate_succ]
  rw [e2]
  have hlen : (b ++ (0 : Int) :: List.replicate t.length 0).length = b.length + (1 + t.length) := by simp; omega
  have e3 : (b.length : Int) + 0 = ((b.length : Nat) : Int) := by omega
  rw [if_pos (by rw [hlen]; omega), if_pos (by rw [hlen]; omega), e3, getI_nat, get_mid rfl, Option.bind_some, setI_nat (by rw [hlen]; omega), Option.bind_some, set_mid rfl, if_pos (by rw [hlen]; omega), u8_in _ (by omega)]
  have := copy_mid (a := b ++ [(t.length : Int)]) (m := List.replicate t.length 0) (c := []) (ys := t) (l := (b.length : Int) + 1) (h := (b.length : Int) + (((b.length + (1 + t.length) : Nat) : Int) - (b.length : Int))) (by simp) (by simp; omega) (by simp)
  rw [List.append_nil, List.append_nil, List.append_assoc] at this
  rw [hlen]
  simp only [List.cons_append, List.nil_append] at this
  rw [this]
  simp [tx]
/-- A text, taken. -/
theorem Text_ok {t rest : List Int} {most : Nat} (ht : t.length ≤ most) (hm : most ≤ 255) : g100 ⟨tx t ++ rest, 0, true⟩ (most : Int) = some (t, ⟨rest, 0, true⟩) := by
  unfold g100
  have g0 : getI (tx t ++ rest) 0 = some (t.length : Int) := rfl
  have hlen : ((tx t ++ rest).length : Int) = (t.length : Int) + 1 + (rest.length : Int) := by simp [tx_len]
  rw [none_ok, Option.bind_some, if_neg (by simp), if_neg (by omega)]
  simp only
  rw [if_neg (by rw [hlen]; omega), g0, Option.bind_some, Option.bind_some, i64_in _ (by omega), if_neg (by omega), if_neg (by rw [hlen]; omega)]
  unfold g100_j1
  simp only
  rw [if_neg (by decide), g0, Option.bind_some, i64_in (t.length : Int) (by omega), i64_in _ (by omega), show (1 : Int) + (t.length : Int) = ((1 + t.length : Nat) : Int) by omega, next_ok (by simp [tx_len]; omega), Option.bind_some]
  simp only
  have e1 : (tx t ++ rest).take (1 + t.length) = tx t := by
    rw [List.take_append_of_le_length (by rw [tx_len]; omega), List.take_of_length_le (by rw [tx_len]; omega)]
  have e2 : (tx t ++ rest).drop (1 + t.length) = rest := by
    rw [List.drop_append_of_le_length (by rw [tx_len]; omega), List.drop_of_length_le (by rw [tx_len]; omega), List.nil_append]
  rw [e1, e2, show (1 : Int) = ((1 : Nat) : Int) from rfl, cutI_from (by rw [tx_len]; omega), Option.bind_some]
  rfl
/-- A reader that some call made. -/
structure RdOk (r : T_pack_Reader) : Prop where
  made : r.made = true
  bytes : B8 r.b
  len : r.b.length ≤ 1000000
theorem fails_ok (r : T_pack_Reader) (e : Int) : g114_1 r e = some ⟨r.b, e, r.made⟩ := rfl
theorem next_any {r : T_pack_Reader} (h : RdOk r) {n : Nat} : ∃ t r', g115_1 r (n : Int) = some (t, r') ∧ RdOk r' ∧ B8 t ∧ t.length ≤ n ∧ (r.err = 0 ∧ n ≤ r.b.length → t.length = n) := by
  obtain ⟨b, e, m⟩ := r
  obtain ⟨hm, hb, hl⟩ := h
  simp only at hm hb hl
  subst hm
  by_cases he : e = 0
  · subst he
    by_cases hn : n ≤ b.length
    · exact ⟨_, _, next_ok hn, ⟨rfl, hb.drop n, by simp; omega⟩, hb.take n, by simp; omega, fun _ => by simp; omega⟩
    · exact ⟨_, _, next_short (by omega), ⟨rfl, hb, hl⟩, B8.nil, by simp, fun h => absurd h.2 hn⟩
  · exact ⟨_, _, next_err he, ⟨rfl, hb, hl⟩, B8.nil, by simp, fun h => absurd h.1 he⟩
theorem number_any {r : T_pack_Reader} (h : RdOk r) {n : Nat} (hn : n ≤ 8) : ∃ v r', g112_1 r (n : Int) = some (((v : Nat) : Int), r') ∧ RdOk r' ∧ v < 256 ^ n := by
  obtain ⟨t, r', h1, h2, h3, h4, _⟩ := next_any h (n := n)
  unfold g112_1
  rw [h1, Option.bind_some, number_fold h3 (by omega)]
  exact ⟨_, _, rfl, h2, Nat.lt_of_lt_of_le (ofbe_lt h3) (Nat.pow_le_pow_right (by decide) h4)⟩
theorem Text_any {r : T_pack_Reader} (h : RdOk r) {most : Nat} (hm : most ≤ 255) : ∃ t r', g100 r (most : Int) = some (t, r') ∧ RdOk r' ∧ B8 t ∧ t.length ≤ most := by
  have hr := h
  obtain ⟨b, e, m⟩ := r
  obtain ⟨h1, hb, hl⟩ := h
  simp only at h1 hb hl
  subst h1
  have bad : ∀ x : Int, x ≠ 0 → ∃ t r', g100_j1 ⟨b, e, true⟩ x = some (t, r') ∧ RdOk r' ∧ B8 t ∧ t.length ≤ most := by
    intro x hx
    unfold g100_j1
    rw [if_pos hx, fails_ok, Option.bind_some]
    exact ⟨_, _, rfl, ⟨rfl, hb, hl⟩, B8.nil, by simp⟩
  unfold g100
  rw [none_ok, Option.bind_some]
  by_cases he : e = 0
  · subst he
    rw [if_neg (by simp), if_neg (by omega)]
    simp only
    by_cases h0 : (b.length : Int) = 0
    · rw [if_pos h0]
      exact bad 10 (by decide)
    · rw [if_neg h0]
      obtain ⟨c, cs, rfl⟩ : ∃ c cs, b = c :: cs := by cases b with | nil => simp at h0 | cons c cs => exact ⟨c, cs, rfl⟩
      have hc := hb c (List.mem_cons_self ..)
      have g0 : getI (c :: cs) 0 = some c := rfl
      rw [g0, Option.bind_some, Option.bind_some, i64_in c (by omega)]
      by_cases c1 : c > (most : Int)
      · rw [if_pos c1]; exact bad 3 (by decide)
      · rw [if_neg c1]
        by_cases c2 : c ≥ ((c :: cs).length : Int)
        · rw [if_pos c2]; exact bad 10 (by decide)
        · rw [if_neg c2]
          unfold g100_j1
          simp only
          rw [if_neg (by decide), g0, Option.bind_some, i64_in c (by omega), i64_in _ (by omega)]
          obtain ⟨k, rfl⟩ : ∃ k : Nat, c = k := ⟨c.toNat, by omega⟩
          rw [show (1 : Int) + (k : Int) = ((1 + k : Nat) : Int) by omega, next_ok (by simp at c2 ⊢; omega), Option.bind_some]
          simp only
          have hl2 : (List.take (1 + k) ((k : Int) :: cs)).length = 1 + k := by rw [List.length_take]; simp at c2 ⊢; omega
          rw [show (1 : Int) = ((1 : Nat) : Int) from rfl, cutI_from (by omega), Option.bind_some]
          exact ⟨_, _, rfl, ⟨rfl, hb.drop _, by simp at hl ⊢; omega⟩, (hb.take _).drop _, by rw [List.length_drop, hl2]; omega⟩
  · rw [if_pos (by simp [he])]
    exact ⟨_, _, rfl, hr, B8.nil, by simp⟩
theorem Err_ok {r : T_pack_Reader} (h : r.made = true) : g72 r = some r.err := by
  unfold g72
  rw [if_neg (by simp [h])]
end Go.Proofs.Ytefjbhogpgihaaa
