/- Plain laws of pack: numbers and texts put and taken. -/
import Derived.Test.YtefjbhogpgihaaaG
import Derived.Test.YtefjbhogpgihaaaSXy
set_option linter.unusedVariables false
set_option maxRecDepth 20000
namespace Go.Proofs.Ytefjbhogpgihaaa
open Go Go.SX
theorem FUEL_big : 140737488355328 < FUEL := by unfold FUEL; decide
theorem set_mid {b t : List Int} {c d : Int} {k : Nat} (h : k = b.length) : (b ++ d :: t).set k c = b ++ c :: t := by
  subst h
  rw [List.set_append_right _ _ (Nat.le_refl _), Nat.sub_self]
  rfl
theorem get_mid {b t : List Int} {d : Int} {k : Nat} (h : k = b.length) : (b ++ d :: t)[k]? = some d := by
  subst h
  rw [List.getElem?_append_right (Nat.le_refl _), Nat.sub_self]
  rfl
theorem wide_loop {b y : List Int} {v n : Nat} (hv : v < 18446744073709551616) (hn : n ≤ 8) (hy : y.length = b.length + n) (hb : b.length ≤ 1000000000) : ∀ (fuel i : Nat), i ≤ n → n - i < fuel →
    g97_l1 b (v : Int) (n : Int) y fuel (i : Int) (b ++ (List.replicate (n - i) 0 ++ be i v)) = some (b ++ be n v) := by
  intro fuel
  induction fuel with
  | zero => intro i _ h; omega
  | succ f ih =>
    intro i hi hf
    show g97_l1B b (v : Int) (n : Int) y (g97_l1 b (v : Int) (n : Int) y f) (i : Int) _ = _
    unfold g97_l1B
    by_cases h : i < n
    · have e1 : IntKind.u64.wrap (IntKind.i64.wrap (8 * (i : Int))) = ((8 * i : Nat) : Int) := by
        rw [i64_in _ (by omega), u64_in _ (by omega)]; omega
      have e2 : IntKind.i64.wrap (IntKind.i64.wrap ((n : Int) - 1) - (i : Int)) = ((n - 1 - i : Nat) : Int) := by
        rw [i64_in ((n : Int) - 1) (by omega), i64_in _ (by omega)]; omega
      have e3 : IntKind.i64.wrap ((i : Int) + 1) = ((i + 1 : Nat) : Int) := by rw [i64_in _ (by omega)]; omega
      have e4 : ((b.length : Int) + ((n - 1 - i : Nat) : Int)) = ((b.length + (n - 1 - i) : Nat) : Int) := by omega
      have e5 : shrI .u64 (v : Int) ((8 * i : Nat) : Int) = ((v / 256 ^ i : Nat) : Int) := by
        rw [shrI_nat (show 8 * i ≤ IntKind.u64.bits by show 8 * i ≤ 64; omega), show (2 : Nat) ^ (8 * i) = 256 ^ i by rw [Nat.pow_mul]]
      have e6 : List.replicate (n - i) (0 : Int) = List.replicate (n - 1 - i) 0 ++ [0] := by
        rw [← List.replicate_succ', show n - 1 - i + 1 = n - i by omega]
      have hlen : (b ++ List.replicate (n - 1 - i) (0 : Int)).length = b.length + (n - 1 - i) := by simp
      have e7 : (b ++ (List.replicate (n - i) (0 : Int) ++ be i v)) = (b ++ List.replicate (n - 1 - i) (0 : Int)) ++ 0 :: be i v := by rw [e6]; simp
      rw [if_pos (by omega), e1, if_pos (by omega), Option.bind_some, e5, e2, if_pos (by omega), e4, getI_nat, e7, get_mid hlen.symm, Option.bind_some, setI_nat (by rw [List.length_append, hlen]; simp), Option.bind_some, e3,
        set_mid hlen.symm, wrap_nat rfl]
      have := ih (i + 1) (by omega) (by omega)
      rw [be_high, ← List.append_assoc, show n - (i + 1) = n - 1 - i by omega] at this
      exact this
    · obtain rfl : i = n := by omega
      rw [if_neg (by omega), Nat.sub_self]
      simp
theorem wide_ok {b : List Int} {v n : Nat} (hv : v < 18446744073709551616) (hn : n ≤ 8) (hb : b.length ≤ 1000000000) : g97 b (v : Int) (n : Int) = some (b ++ be n v) := by
  unfold g97
  have e1 : IntKind.i64.wrap ((b.length : Int) + (n : Int)) = ((b.length + n : Nat) : Int) := by rw [i64_in _ (by omega)]; omega
  rw [e1, repI_nat (by omega), Option.bind_some, Option.bind_some]
  have e2 : copyI (List.replicate (b.length + n) (0 : Int)) 0 ((List.replicate (b.length + n) (0 : Int)).length : Int) b = b ++ List.replicate n 0 := by
    unfold copyI
    simp only [List.length_replicate, Int.toNat_zero, List.take_zero, List.nil_append, Int.sub_zero, Int.toNat_natCast, Nat.zero_add]
    rw [List.take_of_length_le (by omega), List.drop_replicate]
    congr 2
    omega
  rw [e2]
  have hlen : (b ++ List.replicate n (0 : Int)).length = b.length + n := by simp
  rw [if_pos (by rw [hlen]; omega)]
  have := wide_loop (b := b) (y := b ++ List.replicate n 0) hv hn hlen hb FUEL 0 (by omega) (by unfold FUEL; omega)
  simpa [be] using this
theorem u16_ok {b : List Int} {v : Nat} (hv : v < 65536) (hb : b.length ≤ 1000000000) : g68 b (v : Int) = some (b ++ be 2 v) := by
  unfold g68
  rw [u64_in _ (by omega), show (2 : Int) = ((2 : Nat) : Int) from rfl, wide_ok (by omega) (by omega) hb]
  rfl
/-! ### What is taken -/
theorem copy_mid {a m c ys : List Int} {l h : Int} (hl : l = (a.length : Int)) (hh : h = ((a.length + m.length : Nat) : Int)) (hy : ys.length ≤ m.length) : copyI (a ++ (m ++ c)) l h ys = a ++ (ys ++ (m.drop ys.length ++ c)) := by
  subst hl hh
  unfold copyI
  rw [Int.toNat_natCast, List.take_left, show (((a.length + m.length : Nat) : Int) - (a.length : Int)).toNat = m.length by omega, List.take_of_length_le hy, Nat.min_eq_right hy, List.drop_append, List.append_assoc]
  rw [List.drop_of_length_le (by omega), List.nil_append, show a.length + ys.length - a.length = ys.length by omega, List.drop_append, show ys.length - m.length = 0 by omega]
  rfl
def tx (t : List Int) : List Int := (t.length : Int) :: t
theorem tx_len (t : List Int) : (tx t).length = t.length + 1 := by simp [tx]
theorem tx_8 {t : List Int} (h : B8 t) (hl : t.length ≤ 255) : B8 (tx t) := B8.cons (by omega) h
theorem text_ok {b t : List Int} (ht : t.length ≤ 255) (hb : b.length ≤ 1000000000) : g96 b t = some (b ++ tx t, 0) := by
  unfold g96
  have e1 : IntKind.i64.wrap ((b.length : Int) + IntKind.i64.wrap (1 + (t.length : Int))) = ((b.length + (1 + t.length) : Nat) : Int) := by
    rw [i64_in (1 + (t.length : Int)) (by omega), i64_in _ (by omega)]; omega
  rw [if_neg (by omega), e1, Option.bind_some, repI_nat (by omega), Option.bind_some, Option.bind_some]
  have e2 : copyI (List.replicate (b.length + (1 + t.length)) (0 : Int)) 0 ((List.replicate (b.length + (1 + t.length)) (0 : Int)).length : Int) b = b ++ 0 :: List.replicate t.length 0 := by
    unfold copyI
    simp only [List.length_replicate, Int.toNat_zero, List.take_zero, List.nil_append, Int.sub_zero, Int.toNat_natCast, Nat.zero_add]
    rw [List.take_of_length_le (by omega), List.drop_replicate, Nat.min_eq_right (by omega), show b.length + (1 + t.length) - b.length = t.length + 1 by omega, List.replicate_succ]
  rw [e2]
  have hlen : (b ++ (0 : Int) :: List.replicate t.length 0).length = b.length + (1 + t.length) := by simp; omega
  have e3 : (b.length : Int) + 0 = ((b.length : Nat) : Int) := by omega
  rw [if_pos (by rw [hlen]; omega), if_pos (by rw [hlen]; omega), e3, getI_nat, get_mid rfl, Option.bind_some, setI_nat (by rw [hlen]; omega), Option.bind_some, set_mid rfl, if_pos (by rw [hlen]; omega), u8_in _ (by omega)]
  have := copy_mid (a := b ++ [(t.length : Int)]) (m := List.replicate t.length 0) (c := []) (ys := t) (l := (b.length : Int) + 1) (h := (b.length : Int) + (((b.length + (1 + t.length) : Nat) : Int) - (b.length : Int))) (by simp) (by simp; omega) (by simp)
  rw [List.append_nil, List.append_nil, List.append_assoc] at this
  rw [hlen]
  simp only [List.cons_append, List.nil_append] at this
  rw [this]
  simp [tx]
end Go.Proofs.Ytefjbhogpgihaaa
