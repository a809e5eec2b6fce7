/- Sets of pages, plain laws, part 5: how many bits a word has. -/
import Derived.Test.YtofhmhbffdoiaaaDoorSD
namespace Go.Proofs.YtofhmhbffdoiaaaDoor
open Go Go.SX Go.VX
set_option maxRecDepth 100000
set_option linter.unusedVariables false
set_option linter.unusedSimpArgs false

def val (B : Nat) : List Nat → Nat
  | [] => 0
  | d :: ds => d + B * val B ds
theorem and_split {k a b r s : Nat} (ha : a < 2 ^ k) (hb : b < 2 ^ k) : (a + 2 ^ k * r) &&& (b + 2 ^ k * s) = (a &&& b) + 2 ^ k * (r &&& s) := by
  have hab : a &&& b < 2 ^ k := Nat.lt_of_le_of_lt Nat.and_le_left ha
  apply Nat.eq_of_testBit_eq
  intro i
  rw [Nat.testBit_and, Nat.add_comm a, Nat.add_comm b, Nat.add_comm (a &&& b), Nat.testBit_two_pow_mul_add _ ha, Nat.testBit_two_pow_mul_add _ hb, Nat.testBit_two_pow_mul_add _ hab]
  by_cases hi : i < k
  · simp [hi, Nat.testBit_and]
  · simp [hi, Nat.testBit_and]
/-- Both halves of each digit, added. -/
theorem halves {h : Nat} (hpos : 0 < h) : ∀ (ds : List Nat), (∀ d ∈ ds, d < 2 ^ (2 * h)) →
    ((val (2 ^ (2 * h)) ds / 2 ^ h) &&& val (2 ^ (2 * h)) (List.replicate ds.length (2 ^ h - 1))) + (val (2 ^ (2 * h)) ds &&& val (2 ^ (2 * h)) (List.replicate ds.length (2 ^ h - 1))) = val (2 ^ (2 * h)) (ds.map fun d => d / 2 ^ h + d % 2 ^ h)
  | [], _ => by simp [val]
  | d :: ds, hd => by
    have ih := halves hpos ds fun x hx => hd x (List.mem_cons_of_mem _ hx)
    have hd0 := hd d (List.mem_cons_self ..)
    simp only [val, List.length_cons, List.replicate_succ, List.map_cons]
    generalize val (2 ^ (2 * h)) ds = r at *
    generalize val (2 ^ (2 * h)) (List.replicate ds.length (2 ^ h - 1)) = M at *
    rw [← ih]
    have hp := Nat.two_pow_pos h
    have hB : 2 ^ (2 * h) = 2 ^ h * 2 ^ h := by rw [← Nat.pow_add]; congr 1; omega
    have hm : 2 ^ h - 1 < 2 ^ (2 * h) := by
      have : 2 ^ h ≤ 2 ^ (2 * h) := Nat.pow_le_pow_right (by decide) (by omega)
      omega
    have hdh : d / 2 ^ h < 2 ^ h := by rw [Nat.div_lt_iff_lt_mul hp, ← hB]; exact hd0
    have e1 : (d + 2 ^ (2 * h) * r) / 2 ^ h = (d / 2 ^ h + 2 ^ h * (r % 2 ^ h)) + 2 ^ (2 * h) * (r / 2 ^ h) := by
      rw [hB, Nat.mul_assoc, Nat.add_mul_div_left _ _ hp, Nat.add_assoc]
      congr 1
      rw [Nat.mul_assoc, ← Nat.mul_add]
      congr 1
      exact (Nat.mod_add_div r (2 ^ h)).symm
    have hlt : d / 2 ^ h + 2 ^ h * (r % 2 ^ h) < 2 ^ (2 * h) := by
      have h1 : r % 2 ^ h + 1 ≤ 2 ^ h := Nat.mod_lt _ hp
      have h2 : 2 ^ h * (r % 2 ^ h + 1) ≤ 2 ^ h * 2 ^ h := Nat.mul_le_mul_left _ h1
      rw [hB, Nat.mul_add, Nat.mul_one] at *
      omega
    rw [e1, and_split hlt hm, and_split hd0 hm]
    have e2 : (d / 2 ^ h + 2 ^ h * (r % 2 ^ h)) &&& (2 ^ h - 1) = d / 2 ^ h := by
      rw [Nat.and_two_pow_sub_one_eq_mod, Nat.add_mul_mod_self_left, Nat.mod_eq_of_lt hdh]
    have e3 : d &&& (2 ^ h - 1) = d % 2 ^ h := by rw [Nat.and_two_pow_sub_one_eq_mod]
    rw [e2, e3, Nat.mul_add]
    omega
def dig : Nat → Nat → List Nat
  | 0, _ => []
  | n + 1, x => x % 4 :: dig n (x / 4)
theorem dig_val : ∀ (n x : Nat), x < 4 ^ n → val 4 (dig n x) = x
  | 0, x, h => by simp at h; subst h; rfl
  | n + 1, x, h => by
    have : x / 4 < 4 ^ n := by rw [Nat.div_lt_iff_lt_mul (by decide)]; rw [Nat.pow_succ] at h; exact h
    simp only [dig, val, dig_val n _ this]
    omega
theorem dig_len : ∀ (n x : Nat), (dig n x).length = n
  | 0, _ => rfl
  | n + 1, x => by simp [dig, dig_len n]
theorem dig_lt : ∀ (n x : Nat), ∀ d ∈ dig n x, d < 4
  | 0, _, _, h => by cases h
  | n + 1, x, d, h => by
    rcases List.mem_cons.1 h with rfl | h
    · omega
    · exact dig_lt n _ d h
def pairs (B : Nat) : List Nat → List Nat
  | a :: b :: l => (a + B * b) :: pairs B l
  | _ => []
theorem pairs_val {B : Nat} : ∀ (n : Nat) (l : List Nat), l.length = 2 * n → val (B * B) (pairs B l) = val B l
  | 0, l, h => by
    have : l = [] := List.eq_nil_of_length_eq_zero (by omega)
    subst this; rfl
  | n + 1, l, h => by
    match l, h with
    | a :: b :: l, h =>
      simp only [pairs, val]
      rw [pairs_val n l (by simp at h; omega), Nat.mul_add, Nat.mul_assoc]
      omega
theorem pairs_len {B : Nat} : ∀ (n : Nat) (l : List Nat), l.length = 2 * n → (pairs B l).length = n
  | 0, l, h => by
    have : l = [] := List.eq_nil_of_length_eq_zero (by omega)
    subst this; rfl
  | n + 1, l, h => by
    match l, h with
    | a :: b :: l, h => simp only [pairs, List.length_cons, pairs_len n l (by simp at h; omega)]
theorem pairs_le {B m : Nat} : ∀ (n : Nat) (l : List Nat), l.length = 2 * n → (∀ d ∈ l, d ≤ m) → ∀ d ∈ pairs B l, ∃ a b, a ≤ m ∧ b ≤ m ∧ d = a + B * b
  | 0, l, h, _, d, hd => by
    have : l = [] := List.eq_nil_of_length_eq_zero (by omega)
    subst this; cases hd
  | n + 1, l, h, hm, d, hd => by
    match l, h with
    | a :: b :: l, h =>
      simp only [pairs, List.mem_cons] at hd
      rcases hd with rfl | hd
      · exact ⟨a, b, hm a (by simp), hm b (by simp), rfl⟩
      · exact pairs_le n l (by simp at h; omega) (fun x hx => hm x (by simp [hx])) d hd
theorem pairs_sum {B m : Nat} (hB : m < B) : ∀ (n : Nat) (l : List Nat), l.length = 2 * n → (∀ d ∈ l, d ≤ m) → ((pairs B l).map fun d => d / B + d % B).sum = l.sum
  | 0, l, h, _ => by
    have : l = [] := List.eq_nil_of_length_eq_zero (by omega)
    subst this; rfl
  | n + 1, l, h, hm => by
    match l, h with
    | a :: b :: l, h =>
      simp only [pairs, List.map_cons, List.sum_cons]
      rw [pairs_sum hB n l (by simp at h; omega) (fun x hx => hm x (by simp [hx]))]
      have ha := hm a (by simp)
      rw [Nat.add_mul_div_left _ _ (by omega), Nat.add_mul_mod_self_left, Nat.div_eq_of_lt (by omega), Nat.mod_eq_of_lt (by omega)]
      omega
theorem bytes_mod : ∀ (l : List Nat), (∀ d ∈ l, ∃ a b, a ≤ 4 ∧ b ≤ 4 ∧ d = a + 16 * b) → val 256 l % 16 ≤ 4
  | [], _ => by simp [val]
  | d :: l, h => by
    obtain ⟨a, b, ha, hb, rfl⟩ := h d (List.mem_cons_self ..)
    simp only [val]
    omega
theorem nibbles : ∀ (l : List Nat), (∀ d ∈ l, ∃ a b, a ≤ 4 ∧ b ≤ 4 ∧ d = a + 16 * b) →
    ((val 256 l / 16 + val 256 l) &&& val 256 (List.replicate l.length 15)) = val 256 (l.map fun d => d / 16 + d % 16)
  | [], _ => by simp [val]
  | d :: l, h => by
    have ih := nibbles l fun x hx => h x (List.mem_cons_of_mem _ hx)
    have hm := bytes_mod l fun x hx => h x (List.mem_cons_of_mem _ hx)
    obtain ⟨a, b, ha, hb, rfl⟩ := h d (List.mem_cons_self ..)
    simp only [val, List.length_cons, List.replicate_succ, List.map_cons]
    rw [← ih]
    generalize val 256 l = r at *
    have e1 : (a + 16 * b + 256 * r) / 16 + (a + 16 * b + 256 * r) = (b + (a + 16 * b) + 16 * (r % 16)) + 2 ^ 8 * (r / 16 + r) := by omega
    have e2 := and_split (k := 8) (a := b + (a + 16 * b) + 16 * (r % 16)) (b := 15) (r := r / 16 + r) (s := val 256 (List.replicate l.length 15)) (by omega) (by omega)
    rw [e1]
    show (b + (a + 16 * b) + 16 * (r % 16) + 2 ^ 8 * (r / 16 + r)) &&& (15 + 2 ^ 8 * val 256 (List.replicate l.length 15)) = _
    rw [e2]
    have e3 : (b + (a + 16 * b) + 16 * (r % 16)) &&& 15 = (b + (a + 16 * b) + 16 * (r % 16)) % 16 := Nat.and_two_pow_sub_one_eq_mod _ 4
    rw [e3]
    show _ + 256 * _ = _
    congr 1
    omega
/-- How many of the lowest n bits are set. -/
def cnt : Nat → Nat → Nat
  | 0, _ => 0
  | n + 1, x => x % 2 + cnt n (x / 2)
theorem cnt_dig : ∀ (n x : Nat), ((dig n x).map fun d => d / 2 + d % 2).sum = cnt (2 * n) x
  | 0, _ => rfl
  | n + 1, x => by
    rw [show 2 * (n + 1) = 2 * n + 1 + 1 by omega]
    simp only [dig, List.map_cons, List.sum_cons, cnt, cnt_dig n]
    rw [Nat.div_div_eq_div_mul, show 2 * 2 = 4 from rfl]
    omega
theorem cnt_le : ∀ (n x : Nat), cnt n x ≤ n
  | 0, _ => Nat.le_refl _
  | n + 1, x => by
    have := cnt_le n (x / 2)
    simp only [cnt]
    omega
theorem shr_nat {a k : Nat} (hk : k ≤ 64) : shrI .u64 (a : Int) (k : Int) = ((a / 2 ^ k : Nat) : Int) := by
  unfold shrI
  have h1 : min (k : Int).toNat IntKind.u64.bits = k := by rw [show IntKind.u64.bits = 64 from rfl]; omega
  rw [h1]
  have h2 : ((2 : Int) ^ k) = ((2 ^ k : Nat) : Int) := by simp
  rw [h2, Int.fdiv_eq_ediv_of_nonneg _ (Int.natCast_nonneg _)]
  rfl
theorem andI_i64 {a b : Nat} (ha : a < 9223372036854775808) (hb : b < 9223372036854775808) : andI .i64 (a : Int) (b : Int) = ((a &&& b : Nat) : Int) := by
  unfold andI
  have h1 : (BitVec.ofInt IntKind.i64.bits (a : Int) &&& BitVec.ofInt IntKind.i64.bits (b : Int)).toNat = a &&& b := by
    rw [ofInt_nat, ofInt_nat, BitVec.toNat_and, BitVec.toNat_ofNat, BitVec.toNat_ofNat]
    rw [Nat.mod_eq_of_lt (by exact Nat.lt_trans ha (by decide)), Nat.mod_eq_of_lt (by exact Nat.lt_trans hb (by decide))]
  rw [h1]
  refine i64_in _ ⟨by omega, ?_⟩
  have := Nat.and_le_left (n := a) (m := b)
  omega
theorem dm {x k r q : Nat} (hr : r < k) (h : x = r + k * q) : x / k = q := by
  subst h
  rw [Nat.add_mul_div_left _ _ (by omega), Nat.div_eq_of_lt hr, Nat.zero_add]
theorem mm {x k r q : Nat} (hr : r < k) (h : x = r + k * q) : x % k = r := by
  subst h
  rw [Nat.add_mul_mod_self_left, Nat.mod_eq_of_lt hr]
theorem id1 (b0 b1 b2 b3 b4 b5 b6 b7 : Nat) : b0 + 256 * (b1 + 256 * (b2 + 256 * (b3 + 256 * (b4 + 256 * (b5 + 256 * (b6 + 256 * b7)))))) + (b1 + 256 * (b2 + 256 * (b3 + 256 * (b4 + 256 * (b5 + 256 * (b6 + 256 * b7)))))) = ((b0 + b1) + 256 * (b1 + b2)) + 65536 * ((b2 + b3) + 256 * ((b3 + b4) + 256 * ((b4 + b5) + 256 * ((b5 + b6) + 256 * ((b6 + b7) + 256 * b7))))) := by omega
theorem id2 (b0 b1 b2 b3 b4 b5 b6 b7 : Nat) : ((b0 + b1) + 256 * (b1 + b2)) + 65536 * ((b2 + b3) + 256 * ((b3 + b4) + 256 * ((b4 + b5) + 256 * ((b5 + b6) + 256 * ((b6 + b7) + 256 * b7))))) + ((b2 + b3) + 256 * ((b3 + b4) + 256 * ((b4 + b5) + 256 * ((b5 + b6) + 256 * ((b6 + b7) + 256 * b7))))) = ((b0 + b1 + b2 + b3) + 256 * (b1 + b2 + b3 + b4) + 65536 * (b2 + b3 + b4 + b5) + 16777216 * (b3 + b4 + b5 + b6)) + 4294967296 * ((b4 + b5 + b6 + b7) + 256 * (b5 + b6 + b7) + 65536 * (b6 + b7) + 16777216 * b7) := by omega
theorem id3 (b0 b1 b2 b3 b4 b5 b6 b7 : Nat) : ((b0 + b1 + b2 + b3) + 256 * (b1 + b2 + b3 + b4) + 65536 * (b2 + b3 + b4 + b5) + 16777216 * (b3 + b4 + b5 + b6)) + 4294967296 * ((b4 + b5 + b6 + b7) + 256 * (b5 + b6 + b7) + 65536 * (b6 + b7) + 16777216 * b7) + ((b4 + b5 + b6 + b7) + 256 * (b5 + b6 + b7) + 65536 * (b6 + b7) + 16777216 * b7) = (b0 + b1 + b2 + b3 + b4 + b5 + b6 + b7) + 128 * (2 * (b1 + b2 + b3 + b4 + b5 + b6 + b7) + 512 * (b2 + b3 + b4 + b5 + b6 + b7) + 131072 * (b3 + b4 + b5 + b6 + b7) + 33554432 * ((b4 + b5 + b6 + b7) + 256 * (b5 + b6 + b7) + 65536 * (b6 + b7) + 16777216 * b7)) := by omega
theorem bd1 {b0 b1 b2 : Nat} (h0 : b0 ≤ 8) (h1 : b1 ≤ 8) (h2 : b2 ≤ 8) : (b0 + b1) + 256 * (b1 + b2) < 65536 := by omega
theorem bd2 {b0 b1 b2 b3 b4 b5 b6 : Nat} (h0 : b0 ≤ 8) (h1 : b1 ≤ 8) (h2 : b2 ≤ 8) (h3 : b3 ≤ 8) (h4 : b4 ≤ 8) (h5 : b5 ≤ 8) (h6 : b6 ≤ 8) : (b0 + b1 + b2 + b3) + 256 * (b1 + b2 + b3 + b4) + 65536 * (b2 + b3 + b4 + b5) + 16777216 * (b3 + b4 + b5 + b6) < 4294967296 := by omega
theorem bd3 {b0 b1 b2 b3 b4 b5 b6 b7 : Nat} (h0 : b0 ≤ 8) (h1 : b1 ≤ 8) (h2 : b2 ≤ 8) (h3 : b3 ≤ 8) (h4 : b4 ≤ 8) (h5 : b5 ≤ 8) (h6 : b6 ≤ 8) (h7 : b7 ≤ 8) : b0 + b1 + b2 + b3 + b4 + b5 + b6 + b7 < 128 := by omega
theorem bd4 {b0 b1 b2 b3 b4 b5 b6 b7 : Nat} (h0 : b0 ≤ 8) (h1 : b1 ≤ 8) (h2 : b2 ≤ 8) (h3 : b3 ≤ 8) (h4 : b4 ≤ 8) (h5 : b5 ≤ 8) (h6 : b6 ≤ 8) (h7 : b7 ≤ 8) : (b0 + b1 + b2 + b3 + b4 + b5 + b6 + b7) + 128 * (2 * (b1 + b2 + b3 + b4 + b5 + b6 + b7) + 512 * (b2 + b3 + b4 + b5 + b6 + b7) + 131072 * (b3 + b4 + b5 + b6 + b7) + 33554432 * ((b4 + b5 + b6 + b7) + 256 * (b5 + b6 + b7) + 65536 * (b6 + b7) + 16777216 * b7)) < 9223372036854775808 := by omega
theorem last_steps {b0 b1 b2 b3 b4 b5 b6 b7 : Nat} (h0 : b0 ≤ 8) (h1 : b1 ≤ 8) (h2 : b2 ≤ 8) (h3 : b3 ≤ 8) (h4 : b4 ≤ 8) (h5 : b5 ≤ 8) (h6 : b6 ≤ 8) (h7 : b7 ≤ 8) {a b c d : Nat}
    (ha : a = b0 + 256 * (b1 + 256 * (b2 + 256 * (b3 + 256 * (b4 + 256 * (b5 + 256 * (b6 + 256 * b7))))))) (hb : b = a + a / 256) (hc : c = b + b / 65536) (hd : d = c + c / 4294967296) :
    d % 128 = b0 + b1 + b2 + b3 + b4 + b5 + b6 + b7 ∧ d < 9223372036854775808 := by
  have e1 : a / 256 = _ := dm (r := b0) (Nat.lt_of_le_of_lt h0 (by decide)) ha
  have f1 := hb
  rw [e1, ha, id1] at f1
  have e2 := dm (x := b) (bd1 h0 h1 h2) f1
  have f2 := hc
  rw [e2, f1, id2] at f2
  have e3 := dm (x := c) (bd2 h0 h1 h2 h3 h4 h5 h6) f2
  have f3 := hd
  rw [e3, f2, id3] at f3
  exact ⟨mm (bd3 h0 h1 h2 h3 h4 h5 h6 h7) f3, f3 ▸ bd4 h0 h1 h2 h3 h4 h5 h6 h7⟩
theorem st1 {x a k m : Nat} (hk : k ≤ 64) (hx : x < 18446744073709551616) (hm : m < 9223372036854775808) (h : (x / 2 ^ k &&& m) + (x &&& m) = a) :
    IntKind.u64.wrap (andI .u64 (shrI .u64 (x : Int) (k : Int)) (m : Int) + andI .u64 (x : Int) (m : Int)) = (a : Int) ∧ a ≤ 2 * m := by
  have hs := shr_nat (a := x) (k := k) hk
  have hle : x / 2 ^ k ≤ x := Nat.div_le_self _ _
  have h1 : x / 2 ^ k &&& m ≤ m := Nat.and_le_right
  have h2 : x &&& m ≤ m := Nat.and_le_right
  generalize x / 2 ^ k = y at *
  rw [hs, andI_u64 (by omega) (by omega), andI_u64 hx (by omega), ← Int.natCast_add, h]
  generalize y &&& m = z1 at *
  generalize x &&& m = z2 at *
  exact ⟨u64_in _ (by omega), by omega⟩
theorem st2 {x a k m : Nat} (hk : k ≤ 64) (hx : x < 9223372036854775808) (hm : m < 9223372036854775808) (h : (x / 2 ^ k + x) &&& m = a) :
    andI .u64 (IntKind.u64.wrap (shrI .u64 (x : Int) (k : Int) + (x : Int))) (m : Int) = (a : Int) ∧ a ≤ m := by
  have hs := shr_nat (a := x) (k := k) hk
  have hle : x / 2 ^ k ≤ x := Nat.div_le_self _ _
  generalize x / 2 ^ k = y at *
  rw [hs, ← Int.natCast_add, u64_in _ (by omega), andI_u64 (by omega) (by omega), h]
  exact ⟨rfl, h ▸ Nat.and_le_right⟩
theorem st3 {x a k : Nat} (hk : k ≤ 64) (hx : x < 9223372036854775808) (h : x + x / 2 ^ k = a) :
    IntKind.u64.wrap ((x : Int) + shrI .u64 (x : Int) (k : Int)) = (a : Int) := by
  have hs := shr_nat (a := x) (k := k) hk
  have hle : x / 2 ^ k ≤ x := Nat.div_le_self _ _
  generalize x / 2 ^ k = y at *
  rw [hs, ← Int.natCast_add, h]
  exact u64_in _ (by omega)
theorem o1 {y : Nat} (h : y < 4) : y / 2 ^ 1 + y % 2 ^ 1 ≤ 2 := by
  show y / 2 + y % 2 ≤ 2
  omega
theorem o2 {a b : Nat} (ha : a ≤ 2) (hb : b ≤ 2) : (a + 4 * b) / 2 ^ 2 + (a + 4 * b) % 2 ^ 2 ≤ 4 := by
  show (a + 4 * b) / 4 + (a + 4 * b) % 4 ≤ 4
  omega
theorem o3 {a b : Nat} (ha : a ≤ 2) (hb : b ≤ 2) : a + 4 * b < 2 ^ (2 * 2) := by
  show a + 4 * b < 16
  omega
theorem o4 {a b : Nat} (ha : a ≤ 4) (hb : b ≤ 4) : (a + 16 * b) / 16 + (a + 16 * b) % 16 ≤ 8 := by omega
theorem o5 {a b : Nat} (hb : a + a / 2 ^ 8 = b) (h : a ≤ 1085102592571150095) : b ≤ 1200000000000000000 := by
  rw [show 2 ^ 8 = 256 from rfl] at hb
  omega
theorem o6 {b c : Nat} (hc : b + b / 2 ^ 16 = c) (h : b ≤ 1200000000000000000) : c ≤ 1300000000000000000 := by
  rw [show 2 ^ 16 = 65536 from rfl] at hc
  omega
/-- The three folds into eight digits. -/
theorem folds {x : Nat} (hx : x < 18446744073709551616) : ∃ a1 a2 : Nat, ∃ e3 : List Nat,
    (x / 2 ^ 1 &&& 6148914691236517205) + (x &&& 6148914691236517205) = a1 ∧ (a1 / 2 ^ 2 &&& 3689348814741910323) + (a1 &&& 3689348814741910323) = a2 ∧
    (a2 / 2 ^ 4 + a2) &&& 1085102592571150095 = val 256 e3 ∧ e3.length = 8 ∧ (∀ d ∈ e3, d ≤ 8) ∧ e3.sum = cnt 64 x := by
  have hv : val 4 (dig 32 x) = x := dig_val 32 x hx
  have s1 := halves (h := 1) (by decide) (dig 32 x) (fun d hd => dig_lt 32 x d hd)
  rw [dig_len] at s1
  have m1 : val (2 ^ (2 * 1)) (List.replicate 32 (2 ^ 1 - 1)) = 6148914691236517205 := rfl
  rw [m1, show 2 ^ (2 * 1) = 4 from rfl, hv] at s1
  obtain ⟨e1, he1⟩ : ∃ e, e = (dig 32 x).map fun d => d / 2 ^ 1 + d % 2 ^ 1 := ⟨_, rfl⟩
  rw [← he1] at s1
  have l1 : e1.length = 32 := by rw [he1, List.length_map, dig_len]
  have u1 : ∀ d ∈ e1, d ≤ 2 := by
    intro d hd
    rw [he1] at hd
    obtain ⟨y, hy, rfl⟩ := List.mem_map.1 hd
    exact o1 (dig_lt 32 x y hy)
  have q1 : e1.sum = cnt 64 x := by rw [he1]; exact cnt_dig 32 x
  have v1 := pairs_val (B := 4) 16 e1 l1
  have n1 := pairs_len (B := 4) 16 e1 l1
  have b1 := pairs_le (B := 4) 16 e1 l1 u1
  have t1 := pairs_sum (B := 4) (m := 2) (by decide) 16 e1 l1 u1
  have s2 := halves (h := 2) (by decide) (pairs 4 e1) (fun d hd => by obtain ⟨a, b, ha, hb, rfl⟩ := b1 d hd; exact o3 ha hb)
  rw [n1] at s2
  have m2 : val (2 ^ (2 * 2)) (List.replicate 16 (2 ^ 2 - 1)) = 3689348814741910323 := rfl
  rw [m2, show 2 ^ (2 * 2) = 4 * 4 from rfl, v1] at s2
  obtain ⟨e2, he2⟩ : ∃ e, e = (pairs 4 e1).map fun d => d / 2 ^ 2 + d % 2 ^ 2 := ⟨_, rfl⟩
  rw [← he2, show 4 * 4 = 16 from rfl] at s2
  have l2 : e2.length = 16 := by rw [he2, List.length_map, n1]
  have u2 : ∀ d ∈ e2, d ≤ 4 := by
    intro d hd
    rw [he2] at hd
    obtain ⟨y, hy, rfl⟩ := List.mem_map.1 hd
    obtain ⟨a, b, ha, hb, rfl⟩ := b1 y hy
    exact o2 ha hb
  have q2 : e2.sum = cnt 64 x := by rw [he2, ← q1]; exact t1
  have v2 := pairs_val (B := 16) 8 e2 l2
  have n2 := pairs_len (B := 16) 8 e2 l2
  have b2 := pairs_le (B := 16) 8 e2 l2 u2
  have t2 := pairs_sum (B := 16) (m := 4) (by decide) 8 e2 l2 u2
  have s3 := nibbles (pairs 16 e2) b2
  rw [n2] at s3
  have m3 : val 256 (List.replicate 8 15) = 1085102592571150095 := rfl
  rw [m3, show 256 = 16 * 16 from rfl, v2] at s3
  refine ⟨_, _, (pairs 16 e2).map fun d => d / 16 + d % 16, rfl, rfl, ?_, ?_, ?_, ?_⟩
  · rw [s1, s2]; exact s3
  · rw [List.length_map, n2]
  · intro d hd
    obtain ⟨y, hy, rfl⟩ := List.mem_map.1 hd
    obtain ⟨a, b, ha, hb, rfl⟩ := b2 y hy
    exact o4 ha hb
  · rw [t2, q2]
theorem eight : ∀ (l : List Nat), l.length = 8 → (∀ d ∈ l, d ≤ 8) → ∀ {b c d : Nat}, val 256 l + val 256 l / 256 = b → b + b / 65536 = c → c + c / 4294967296 = d → d % 128 = l.sum ∧ d < 9223372036854775808
  | [c0, c1, c2, c3, c4, c5, c6, c7], _, u, b, c, d, hb, hc, hd => by
    have k0 := u c0 (by simp)
    have k1 := u c1 (by simp)
    have k2 := u c2 (by simp)
    have k3 := u c3 (by simp)
    have k4 := u c4 (by simp)
    have k5 := u c5 (by simp)
    have k6 := u c6 (by simp)
    have k7 := u c7 (by simp)
    obtain ⟨a, ha⟩ : ∃ a, a = val 256 [c0, c1, c2, c3, c4, c5, c6, c7] := ⟨_, rfl⟩
    rw [← ha] at hb
    have ha' : a = c0 + 256 * (c1 + 256 * (c2 + 256 * (c3 + 256 * (c4 + 256 * (c5 + 256 * (c6 + 256 * c7)))))) := ha
    have := last_steps k0 k1 k2 k3 k4 k5 k6 k7 ha' hb.symm hc.symm hd.symm
    refine ⟨?_, this.2⟩
    rw [this.1]
    simp only [List.sum_cons, List.sum_nil, Nat.add_zero, Nat.add_assoc]
theorem ones_ok {x : Nat} (hx : x < 18446744073709551616) : s74 (x : Int) = some ((cnt 64 x : Nat) : Int) := by
  obtain ⟨a1, a2, e3, h1, h2, h3, h4, h5, h6⟩ := folds hx
  obtain ⟨x1, y1⟩ := st1 (k := 1) (by decide) hx (by decide) h1
  obtain ⟨x2, y2⟩ := st1 (k := 2) (by decide) (Nat.lt_of_le_of_lt y1 (by decide)) (by decide) h2
  obtain ⟨x3, y3⟩ := st2 (k := 4) (by decide) (Nat.lt_of_le_of_lt y2 (by decide)) (by decide) h3
  obtain ⟨a3, ha3⟩ : ∃ a, a = val 256 e3 := ⟨_, rfl⟩
  obtain ⟨b, hb⟩ : ∃ b, a3 + a3 / 2 ^ 8 = b := ⟨_, rfl⟩
  obtain ⟨c, hc⟩ : ∃ c, b + b / 2 ^ 16 = c := ⟨_, rfl⟩
  obtain ⟨d, hd⟩ : ∃ d, c + c / 2 ^ 32 = d := ⟨_, rfl⟩
  have e8 := eight e3 h4 h5 (b := b) (c := c) (d := d) (by rw [← ha3]; exact hb) hc hd
  rw [← ha3] at x3 y3
  have hbl := o5 hb y3
  have hcl := o6 hc hbl
  have x4 := st3 (k := 8) (by decide) (Nat.lt_of_le_of_lt y3 (by decide)) hb
  have x5 := st3 (k := 16) (by decide) (Nat.lt_of_le_of_lt hbl (by decide)) hc
  have x6 := st3 (k := 32) (by decide) (Nat.lt_of_le_of_lt hcl (by decide)) hd
  have x7 : IntKind.i64.wrap (d : Int) = d := i64_in _ ⟨by have := Int.natCast_nonneg d; omega, by have := e8.2; clear x1 x2 x3 x4 x5 x6 h1 h2 h3 e8; omega⟩
  have x8 := andI_i64 (b := 127) e8.2 (by decide)
  have x9 : d &&& 127 = d % 128 := Nat.and_two_pow_sub_one_eq_mod _ 7
  rw [x9, e8.1, h6] at x8
  clear h1 h2 h3 hb hc hd e8
  generalize cnt 64 x = z at *
  unfold s74 s74F
  rw [if_pos (by decide), if_pos (by decide), if_pos (by decide), if_pos (by decide), if_pos (by decide), if_pos (by decide)]
  change IntKind.u64.wrap (andI .u64 (shrI .u64 (x : Int) 1) 6148914691236517205 + andI .u64 (x : Int) 6148914691236517205) = (a1 : Int) at x1
  change IntKind.u64.wrap (andI .u64 (shrI .u64 (a1 : Int) 2) 3689348814741910323 + andI .u64 (a1 : Int) 3689348814741910323) = (a2 : Int) at x2
  change andI .u64 (IntKind.u64.wrap (shrI .u64 (a2 : Int) 4 + (a2 : Int))) 1085102592571150095 = (a3 : Int) at x3
  change IntKind.u64.wrap ((a3 : Int) + shrI .u64 (a3 : Int) 8) = (b : Int) at x4
  change IntKind.u64.wrap ((b : Int) + shrI .u64 (b : Int) 16) = (c : Int) at x5
  change IntKind.u64.wrap ((c : Int) + shrI .u64 (c : Int) 32) = (d : Int) at x6
  change andI .i64 (d : Int) 127 = (z : Int) at x8
  rw [x1, x2, x3, x4, x5, x6, x7, x8]
end Go.Proofs.YtofhmhbffdoiaaaDoor
