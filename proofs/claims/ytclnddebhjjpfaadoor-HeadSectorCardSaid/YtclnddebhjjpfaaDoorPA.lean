/- Plain laws of pack and crc: numbers put and taken, and the sum of bytes. -/
import Derived.Test.YtclnddebhjjpfaaDoorG
import Derived.Test.YtclnddebhjjpfaaDoorSXy
set_option linter.unusedVariables false
set_option maxRecDepth 20000
namespace Go.Proofs.YtclnddebhjjpfaaDoor
open Go Go.SX
theorem FUEL_big : 140737488355328 < FUEL := by unfold FUEL; decide
theorem set_mid {b t : List Int} {c d : Int} {k : Nat} (h : k = b.length) : (b ++ d :: t).set k c = b ++ c :: t := by
  subst h
  rw [List.set_append_right _ _ (Nat.le_refl _), Nat.sub_self]
  rfl
theorem get_mid {b t : List Int} {d : Int} {k : Nat} (h : k = b.length) : (b ++ d :: t)[k]? = some d := by
  subst h
  rw [List.getElem?_append_right (Nat.le_refl _), Nat.sub_self]
  rfl
theorem wide_loop {b y : List Int} {v n : Nat} (hv : v < 18446744073709551616) (hn : n ≤ 8) (hy : y.length = b.length + n) (hb : b.length ≤ 1000000000) : ∀ (fuel i : Nat), i ≤ n → n - i < fuel →
    g59_l1 b (v : Int) (n : Int) y fuel (i : Int) (b ++ (List.replicate (n - i) 0 ++ be i v)) = some (b ++ be n v) := by
  intro fuel
  induction fuel with
  | zero => intro i _ h; omega
  | succ f ih =>
    intro i hi hf
    show g59_l1B b (v : Int) (n : Int) y (g59_l1 b (v : Int) (n : Int) y f) (i : Int) _ = _
    unfold g59_l1B
    by_cases h : i < n
    · have e1 : IntKind.u64.wrap (IntKind.i64.wrap (8 * (i : Int))) = ((8 * i : Nat) : Int) := by
        rw [i64_in _ (by omega), u64_in _ (by omega)]; omega
      have e2 : IntKind.i64.wrap (IntKind.i64.wrap ((n : Int) - 1) - (i : Int)) = ((n - 1 - i : Nat) : Int) := by
        rw [i64_in ((n : Int) - 1) (by omega), i64_in _ (by omega)]; omega
      have e3 : IntKind.i64.wrap ((i : Int) + 1) = ((i + 1 : Nat) : Int) := by rw [i64_in _ (by omega)]; omega
      have e4 : ((b.length : Int) + ((n - 1 - i : Nat) : Int)) = ((b.length + (n - 1 - i) : Nat) : Int) := by omega
      have e5 : shrI .u64 (v : Int) ((8 * i : Nat) : Int) = ((v / 256 ^ i : Nat) : Int) := by
        rw [shrI_nat (show 8 * i ≤ IntKind.u64.bits by show 8 * i ≤ 64; omega), show (2 : Nat) ^ (8 * i) = 256 ^ i by rw [Nat.pow_mul]]
      have e6 : List.replicate (n - i) (0 : Int) = List.replicate (n - 1 - i) 0 ++ [0] := by
        rw [← List.replicate_succ', show n - 1 - i + 1 = n - i by omega]
      have hlen : (b ++ List.replicate (n - 1 - i) (0 : Int)).length = b.length + (n - 1 - i) := by simp
      have e7 : (b ++ (List.replicate (n - i) (0 : Int) ++ be i v)) = (b ++ List.replicate (n - 1 - i) (0 : Int)) ++ 0 :: be i v := by rw [e6]; simp
      rw [if_pos (by omega), e1, if_pos (by omega), Option.bind_some, e5, e2, if_pos (by omega), e4, getI_nat, e7, get_mid hlen.symm, Option.bind_some, setI_nat (by rw [List.length_append, hlen]; simp), Option.bind_some, e3,
        set_mid hlen.symm, wrap_nat rfl]
      have := ih (i + 1) (by omega) (by omega)
      rw [be_high, ← List.append_assoc, show n - (i + 1) = n - 1 - i by omega] at this
      exact this
    · obtain rfl : i = n := by omega
      rw [if_neg (by omega), Nat.sub_self]
      simp
theorem wide_ok {b : List Int} {v n : Nat} (hv : v < 18446744073709551616) (hn : n ≤ 8) (hb : b.length ≤ 1000000000) : g59 b (v : Int) (n : Int) = some (b ++ be n v) := by
  unfold g59
  have e1 : IntKind.i64.wrap ((b.length : Int) + (n : Int)) = ((b.length + n : Nat) : Int) := by rw [i64_in _ (by omega)]; omega
  rw [e1, repI_nat (by omega), Option.bind_some, Option.bind_some]
  have e2 : copyI (List.replicate (b.length + n) (0 : Int)) 0 ((List.replicate (b.length + n) (0 : Int)).length : Int) b = b ++ List.replicate n 0 := by
    unfold copyI
    simp only [List.length_replicate, Int.toNat_zero, List.take_zero, List.nil_append, Int.sub_zero, Int.toNat_natCast, Nat.zero_add]
    rw [List.take_of_length_le (by omega), List.drop_replicate]
    congr 2
    omega
  rw [e2]
  have hlen : (b ++ List.replicate n (0 : Int)).length = b.length + n := by simp
  rw [if_pos (by rw [hlen]; omega)]
  have := wide_loop (b := b) (y := b ++ List.replicate n 0) hv hn hlen hb FUEL 0 (by omega) (by unfold FUEL; omega)
  simpa [be] using this
theorem u16_ok {b : List Int} {v : Nat} (hv : v < 65536) (hb : b.length ≤ 1000000000) : g37 b (v : Int) = some (b ++ be 2 v) := by
  unfold g37
  rw [u64_in _ (by omega), show (2 : Int) = ((2 : Nat) : Int) from rfl, wide_ok (by omega) (by omega) hb]
  rfl
theorem u64_ok {b : List Int} {v : Nat} (hv : v < 18446744073709551616) (hb : b.length ≤ 1000000000) : g73 b (v : Int) = some (b ++ be 8 v) := by
  unfold g73
  rw [show (8 : Int) = ((8 : Nat) : Int) from rfl, wide_ok hv (by omega) hb]
  rfl
theorem u32_ok {b : List Int} {v : Nat} (hv : v < 4294967296) (hb : b.length ≤ 1000000000) : g74 b (v : Int) = some (b ++ be 4 v) := by
  unfold g74
  rw [u64_in _ (by omega), show (4 : Int) = ((4 : Nat) : Int) from rfl, wide_ok (by omega) (by omega) hb]
  rfl

/-! ### The sum -/
theorem tab_ok : ∀ l : Nat, l < 16 → getI TAB2 (l : Int) = some ((csteps 4 l : Nat) : Int) := by
  have key : ∀ l ∈ List.range 16, getI TAB2 ((l : Nat) : Int) = some ((csteps 4 l : Nat) : Int) := by decide
  intro l hl
  exact key l (List.mem_range.2 hl)
theorem nibble_ok {r : Nat} (h : r < 4294967296) : g91 (r : Int) = some ((csteps 4 r : Nat) : Int) := by
  unfold g91
  have h15 : (15 : Int) = ((15 : Nat) : Int) := rfl
  have h4 : (4 : Int) = ((4 : Nat) : Int) := rfl
  rw [h15, andI_nat (k := .u32) rfl (by exact h) (by decide), show r &&& 15 = r % 2 ^ 4 from Nat.and_two_pow_sub_one_eq_mod r 4, tab_ok _ (by omega), Option.bind_some, h4, shrI_nat (by decide)]
  rw [xorI_nat (k := .u32) rfl (by show r / 2 ^ 4 < 4294967296; omega) (by exact csteps_lt 4 (by omega)), csteps_split (n := 4) (r := r)]
theorem by_ok {l : List Int} (hl : B8 l) (hlen : l.length ≤ 140737488355328) {r : Nat} (h : r < 4294967296) : g89 (r : Int) l = some ((cby r l : Nat) : Int) := by
  unfold g89
  refine walk0 (xs := l) (s := (r : Int)) (fun (s : Int) (c : Int) => ((cbyte s.toNat c : Nat) : Int)) (fun s => ∃ n : Nat, s = n ∧ n < 4294967296) (fun s => some s) (fun n s i => g89_l1 l n s i) (by unfold FUEL; omega) ⟨r, rfl, h⟩ ?_ ?_ |>.trans ?_
  · rintro n s i x hx ⟨m, rfl, hm⟩
    have hb := hl.get hx
    have hi := (List.getElem?_eq_some_iff.1 hx).1
    refine ⟨⟨_, rfl, by rw [Int.toNat_natCast]; exact cbyte_lt hm (by omega)⟩, ?_⟩
    show g89_l1B l (g89_l1 l n) (m : Int) (i : Int) = _
    unfold g89_l1B
    have e0 : x = ((x.toNat : Nat) : Int) := by omega
    have e1 : xorI .u32 (m : Int) (IntKind.u32.wrap x) = ((m ^^^ x.toNat : Nat) : Int) := by
      rw [u32_in _ (by omega), e0, xorI_nat (k := .u32) rfl (by exact hm) (by show x.toNat < 4294967296; omega)]
      rw [Int.toNat_natCast]
    have hx1 : m ^^^ x.toNat < 4294967296 := Nat.xor_lt_two_pow (n := 32) hm (by omega)
    rw [if_pos (by omega), getI_nat, hx, Option.bind_some, e1, nibble_ok hx1, Option.bind_some, nibble_ok (csteps_lt 4 hx1), Option.bind_some, ← csteps_add, i64_in _ (by omega)]
    rw [Int.toNat_natCast]
    rfl
  · rintro n s ⟨m, rfl, hm⟩
    show g89_l1B l (g89_l1 l n) (m : Int) (l.length : Int) = _
    unfold g89_l1B
    rw [if_neg (by omega)]
  · congr 1
    have : ∀ (l : List Int) (r : Nat), List.foldl (fun (s : Int) (c : Int) => ((cbyte s.toNat c : Nat) : Int)) (r : Int) l = ((cby r l : Nat) : Int) := by
      intro l
      induction l with
      | nil => intro r; rfl
      | cons a l ih => intro r; rw [List.foldl_cons, Int.toNat_natCast, ih]; rfl
    exact this l r
theorem of_ok : g88 0 = some 4294967295 := by kernel_rfl
theorem sum_ok {r : Nat} (h : r < 4294967296) : g90 (r : Int) = some ((4294967295 ^^^ r : Nat) : Int) := by
  unfold g90
  have h2 : (4294967295 : Int) = ((4294967295 : Nat) : Int) := rfl
  rw [h2, xorI_nat (k := .u32) rfl (by exact h) (by decide), Nat.xor_comm]
/-- Of, in its three steps. -/
theorem crc_ok {l : List Int} (hl : B8 l) (hlen : l.length ≤ 140737488355328) {ρ : Type} (f : Int → Option ρ) :
    ((g88 0).bind fun a => (g89 a l).bind fun b => (g90 b).bind f) = f ((crcOf l : Nat) : Int) := by
  have h2 : (4294967295 : Int) = ((4294967295 : Nat) : Int) := rfl
  rw [of_ok, Option.bind_some, h2, by_ok hl hlen (by decide), Option.bind_some, sum_ok (cby_lt hl (by decide)), Option.bind_some]
  rfl

/-! ### What is taken -/
theorem same49 : g56 = g56_1 := rfl
theorem same51 : g58 = g58_1 := rfl
theorem same48 : g55 = g55_1 := by
  have h : ∀ x n, g55_l1 x n = g55_1_l1 x n := by
    intro x n
    induction n with
    | zero => rfl
    | succ n ih => funext a b; show g55_l1B x _ a b = g55_1_l1B x _ a b; rw [ih]; rfl
  funext p q
  unfold g55 g55_1
  have e : (fun x => g55_l1 x FUEL 0 0) = fun x => g55_1_l1 x FUEL 0 0 := funext fun x => by rw [h]
  rw [e, same51]
theorem read_ok {b : List Int} (hb : b.length ≤ 1000000000) : g32 b = some ⟨b, 0, true⟩ := by
  unfold g32
  have e1 : IntKind.i64.wrap ((b.length : Int) + 0) = ((b.length : Nat) : Int) := by rw [i64_in _ (by omega)]; omega
  rw [e1, repI_nat (by omega), Option.bind_some, Option.bind_some]
  have e2 : copyI (List.replicate b.length (0 : Int)) 0 ((List.replicate b.length (0 : Int)).length : Int) b = b := by
    unfold copyI
    simp only [List.length_replicate, Int.toNat_zero, List.take_zero, List.nil_append, Int.sub_zero, Int.toNat_natCast, Nat.zero_add]
    rw [List.take_of_length_le (by omega), List.drop_replicate]
    simp
  rw [e2, if_pos (by omega)]
theorem none_ok (r : T_pack_Reader) : g56_1 r = some (decide (¬ (r.made = true ∧ r.err = 0))) := by
  unfold g56_1
  cases h : r.made <;> simp
theorem next_ok {b : List Int} {n : Nat} (h : n ≤ b.length) : g58_1 ⟨b, 0, true⟩ (n : Int) = some (b.take n, ⟨b.drop n, 0, true⟩) := by
  unfold g58_1
  rw [none_ok, Option.bind_some, if_neg (by simp), if_neg (by simp; omega), if_pos (by simp; omega)]
  simp only
  rw [cutI_to h, Option.bind_some, cutI_from h, Option.bind_some]
theorem next_short {b : List Int} {n : Nat} (h : b.length < n) : g58_1 ⟨b, 0, true⟩ (n : Int) = some ([], ⟨b, 10, true⟩) := by
  unfold g58_1
  rw [none_ok, Option.bind_some, if_neg (by simp), if_pos (by simp; omega)]
  rfl
theorem next_err {b : List Int} {n e : Int} (h : e ≠ 0) : g58_1 ⟨b, e, true⟩ n = some ([], ⟨b, e, true⟩) := by
  unfold g58_1
  rw [none_ok, Option.bind_some, if_pos (by simp [h])]
theorem number_fold {l : List Int} (hl : B8 l) (h8 : l.length ≤ 8) (r : T_pack_Reader) : g55_1_l1 (l, r) FUEL 0 0 = some (((ofbe l : Nat) : Int), r) := by
  have key : ∀ (fuel i : Nat), i ≤ l.length → l.length - i < fuel → g55_1_l1 (l, r) fuel ((ofbe (l.take i) : Nat) : Int) (i : Int) = some (((ofbe l : Nat) : Int), r) := by
    intro fuel
    induction fuel with
    | zero => intro i _ h; omega
    | succ f ih =>
      intro i hi hf
      show g55_1_l1B (l, r) (g55_1_l1 (l, r) f) _ _ = _
      unfold g55_1_l1B
      simp only
      by_cases h : i < l.length
      · have hx := List.getElem?_eq_getElem h
        have hb := hl.get hx
        have hlt := ofbe_lt (hl.take i)
        rw [List.length_take, Nat.min_eq_left hi] at hlt
        have h256 : 256 ^ i ≤ 256 ^ 7 := Nat.pow_le_pow_right (by decide) (by omega)
        have e8 : (8 : Int) = ((8 : Nat) : Int) := rfl
        rw [if_pos (by omega), getI_nat, hx, Option.bind_some, e8, shlI_nat (k := .u64) rfl (by decide), i64_in _ (by omega), u64_in _ (by omega)]
        have e9 : l[i] = ((l[i].toNat : Nat) : Int) := by omega
        have hm : ofbe (l.take i) * 2 ^ 8 % 2 ^ IntKind.u64.bits = 2 ^ 8 * ofbe (l.take i) := by
          rw [Nat.mod_eq_of_lt (by show _ < 18446744073709551616; omega)]; omega
        rw [hm, e9, orI_nat (k := .u64) rfl (by show _ < 18446744073709551616; omega) (by show _ < 18446744073709551616; omega)]
        have e10 : 2 ^ 8 * ofbe (l.take i) ||| l[i].toNat = ofbe (l.take (i + 1)) := by
          rw [← Nat.two_pow_add_eq_or_of_lt (by omega), List.take_succ_eq_append_getElem h, ofbe_append]; omega
        rw [e10]
        have := ih (i + 1) (by omega) (by omega)
        rw [show (((i + 1 : Nat)) : Int) = (i : Int) + 1 by omega] at this
        exact this
      · obtain rfl : i = l.length := by omega
        rw [if_neg (by omega), List.take_length]
  have := key FUEL 0 (by omega) (by unfold FUEL; omega)
  simpa [ofbe] using this
theorem number_ok {b : List Int} {n : Nat} (hb : B8 b) (hn : n ≤ 8) (h : n ≤ b.length) : g55_1 ⟨b, 0, true⟩ (n : Int) = some (((ofbe (b.take n) : Nat) : Int), ⟨b.drop n, 0, true⟩) := by
  unfold g55_1
  rw [next_ok h, Option.bind_some, number_fold (hb.take n) (by rw [List.length_take]; omega)]
theorem number_short {b : List Int} {n : Nat} (h : b.length < n) : g55_1 ⟨b, 0, true⟩ (n : Int) = some (0, ⟨b, 10, true⟩) := by
  unfold g55_1
  rw [next_short h, Option.bind_some, number_fold B8.nil (by simp)]
  rfl
theorem number_err {b : List Int} {n e : Int} (h : e ≠ 0) : g55_1 ⟨b, e, true⟩ n = some (0, ⟨b, e, true⟩) := by
  unfold g55_1
  rw [next_err h, Option.bind_some, number_fold B8.nil (by simp)]
  rfl
end Go.Proofs.YtclnddebhjjpfaaDoor
