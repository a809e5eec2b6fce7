/- Plain laws of the free map, part 2: the pages that the bits of the map's pages tell. -/
import Derived.Test.YtofhmhbffdoiaaaDoorPutsA
namespace Go.Proofs.YtofhmhbffdoiaaaDoor
open Go Go.SX Go.VX
set_option maxRecDepth 100000
set_option linter.unusedVariables false
set_option linter.unusedSimpArgs false

/-! ### Bits that are read -/
def bitOn (q : List Int) (k : Nat) : Prop := (q.getD (k / 8) 0).toNat / 2 ^ (k % 8) % 2 = 1
instance (q : List Int) (k : Nat) : Decidable (bitOn q k) := by unfold bitOn; infer_instance
/-- The pages that so many bits from one on tell. -/
def bl (q : List Int) (i : Nat) : Nat → Nat → List Int
  | 0, _ => []
  | c + 1, k => if bitOn q k then ((i * 1024 + k : Nat) : Int) :: bl q i c (k + 1) else bl q i c (k + 1)
theorem bl_succ (q : List Int) (i c k : Nat) : bl q i (c + 1) k = if bitOn q k then ((i * 1024 + k : Nat) : Int) :: bl q i c (k + 1) else bl q i c (k + 1) := rfl
theorem bl_len (q : List Int) (i : Nat) : ∀ (c k : Nat), (bl q i c k).length ≤ c
  | 0, _ => Nat.le_refl _
  | c + 1, k => by
    unfold bl
    have := bl_len q i c (k + 1)
    split
    · simp only [List.length_cons]; omega
    · omega
theorem byte_at {q : List Int} (hq : B8 q) {k : Nat} (hk : k / 8 < q.length) : ∃ z : Nat, z ≤ 255 ∧ q[k / 8]? = some (z : Int) ∧ (bitOn q k ↔ z / 2 ^ (k % 8) % 2 = 1) := by
  have h1 := List.getElem?_eq_getElem hk
  have h2 := hq.get h1
  refine ⟨q[k / 8].toNat, by omega, by rw [h1]; congr 1; omega, ?_⟩
  unfold bitOn
  rw [List.getD_eq_getElem?_getD, h1]
  rfl
theorem shr_byte {z c : Nat} (hc : c < 8) : shrI .u8 (z : Int) (c : Int) = ((z / 2 ^ c : Nat) : Int) := shrI_nat (k := .u8) (by show c ≤ 8; omega)
theorem and_one {z c : Nat} (hz : z ≤ 255) : andI .u8 ((z / 2 ^ c : Nat) : Int) 1 = ((z / 2 ^ c % 2 : Nat) : Int) := by
  have h : z / 2 ^ c ≤ z := Nat.div_le_self _ _
  have := andI_nat (k := .u8) rfl (a := z / 2 ^ c) (b := 1) (by show _ < 256; omega) (by decide)
  rw [show ((1 : Nat) : Int) = 1 from rfl] at this
  rw [this, Nat.and_one_is_mod]
theorem place_ok {i k : Nat} (hi : i ≤ 8) (hk : k < 1024) : IntKind.i64.wrap (IntKind.i64.wrap ((i : Int) * 1024) + (k : Int)) = ((i * 1024 + k : Nat) : Int) := by
  rw [show (i : Int) * 1024 = ((i * 1024 : Nat) : Int) by omega, i64_nat (by omega), show ((i * 1024 : Nat) : Int) + (k : Int) = ((i * 1024 + k : Nat) : Int) by omega, i64_nat (by omega)]
/-- What is handed to yield. -/
def trc (d : List Int × Int) : List Int → Tr Int (List Int × Int)
  | [] => .done d
  | v :: l => .yield v d (trc d l)
theorem bits_loop {q : List Int} (hq : B8 q) {i N : Nat} (hi : i ≤ 8) (hN : N ≤ 1024) (hl : N ≤ q.length * 8) : ∀ (m k : Nat), k ≤ N → N - k < m → s73_l1 m (N : Int) (k : Int) q (i : Int) = some (trc (q, (i : Int)) (bl q i (N - k) k)) := by
  intro m
  induction m with
  | zero => intro k _ h; omega
  | succ m ih =>
    intro k hk hm
    show s73_l1B (s73_j1 (s73_l1 m)) (N : Int) (k : Int) q (i : Int) = _
    unfold s73_l1B
    by_cases h : k < N
    · obtain ⟨z, hz, e, hb⟩ := byte_at hq (k := k) (by omega)
      have t3 : Int.tdiv (k : Int) 8 = ((k / 8 : Nat) : Int) := rfl
      have t4 : Int.tmod (k : Int) 8 = ((k % 8 : Nat) : Int) := rfl
      rw [if_pos (by omega), if_pos (by decide), t3, t4, i64_nat (by omega), getI_nat, e, Option.bind_some, if_pos (by decide), if_pos (by omega), shr_byte (by omega), and_one hz, place_ok hi (by omega)]
      have next : s73_j1 (s73_l1 m) (N : Int) (k : Int) false q (i : Int) = some (trc (q, (i : Int)) (bl q i (N - (k + 1)) (k + 1))) := by
        unfold s73_j1 s73_j1F
        simp only [Bool.false_eq_true, if_false]
        rw [show (k : Int) + 1 = ((k + 1 : Nat) : Int) by omega, i64_nat (by omega), ih (k + 1) (by omega) (by omega)]
      have stop : s73_j1 (s73_l1 m) (N : Int) (k : Int) true q (i : Int) = some (.done (q, (i : Int))) := rfl
      rw [next, stop]
      obtain ⟨c, hc⟩ : ∃ c, N - k = c + 1 := ⟨N - k - 1, by omega⟩
      rw [hc, bl_succ, show N - (k + 1) = c by omega]
      by_cases hbit : z / 2 ^ (k % 8) % 2 = 1
      · rw [if_pos (by omega), if_pos (by omega), if_pos (hb.2 hbit)]; rfl
      · rw [if_neg (by omega), if_neg (by omega), if_neg (fun h => hbit (hb.1 h))]
    · rw [if_neg (by omega), show N - k = 0 by omega]; rfl
def nb (q : List Int) : Nat := min 128 q.length * 8
theorem bits_ok {q : List Int} (hq : B8 q) {i : Nat} (hi : i ≤ 8) (hl : q.length ≤ 1000000) : s73 q (i : Int) = some (trc (q, (i : Int)) (bl q i (nb q) 0)) := by
  unfold s73 s73F
  have e : IntKind.i64.wrap ((if (128 : Int) < (q.length : Int) then 128 else (q.length : Int)) * 8) = ((nb q : Nat) : Int) := by
    unfold nb
    by_cases h : (128 : Int) < (q.length : Int)
    · rw [if_pos h, Nat.min_eq_left (by omega)]; exact i64_nat (n := 1024) (by omega)
    · rw [if_neg h, Nat.min_eq_right (by omega), show (q.length : Int) * 8 = ((q.length * 8 : Nat) : Int) by omega, i64_nat (by omega)]
  rw [e]
  have := bits_loop hq hi (N := nb q) (by unfold nb; omega) (by unfold nb; omega) FUEL 0 (by omega) (by unfold nb FUEL; omega)
  simpa using this
/-- All pages that are told, from one page of the map on. -/
def allB : List (List Int) → Nat → List Int
  | [], _ => []
  | q :: r, i => bl q i (nb q) 0 ++ allB r (i + 1)
theorem range_ok {L1 : Int → List (List Int) → List (List Int) → Int → Int → List Int → Option ((Unit × Int) × List Int)} {n : Int} {l l' : List (List Int)} {c i : Int} {d : List Int × Int} : ∀ (vs ys : List Int), ys.length + vs.length ≤ 100000 →
    s23_r1 L1 n l l' c i (trc d vs) ys = L1 n l l' c (IntKind.i64.wrap (i + 1)) (ys ++ vs)
  | [], ys, _ => by rw [List.append_nil]; rfl
  | v :: vs, ys, h => by
    simp only [List.length_cons] at h
    show s23_r1B (fun xs => s23_r1 L1 n l l' c i (trc d vs) xs) v ys = _
    unfold s23_r1B
    rw [appI_ok (by simp only [List.length_cons, List.length_nil]; omega), Option.bind_some]
    refine (range_ok vs (ys ++ [v]) (by simp only [List.length_append, List.length_cons, List.length_nil]; omega)).trans ?_
    rw [List.append_assoc]
    rfl
structure Pgs (l : List (List Int)) : Prop where
  few : l.length ≤ 8
  b8 : ∀ q ∈ l, B8 q
  sz : ∀ q ∈ l, q.length ≤ 1000000
theorem get_loop (n : Int) {l : List (List Int)} (hp : Pgs l) : ∀ (m k : Nat) (ys : List Int), k ≤ l.length → l.length - k < m → ys.length ≤ 1024 * k →
    s23_l1 m n l l (l.length : Int) (k : Int) ys = s23_l2 FUEL n l (l.length : Int) 0 (ys ++ allB (l.drop k) k) := by
  intro m
  induction m with
  | zero => intro k ys _ h; omega
  | succ m ih =>
    intro k ys hk hm hy
    have hf := hp.few
    show s23_l1B (s23_j1 (s23_l1 m)) (s23_l2 FUEL) n l l (l.length : Int) (k : Int) ys = _
    unfold s23_l1B
    by_cases h : k < l.length
    · have hmem : l[k] ∈ l := List.getElem_mem h
      rw [if_pos (by omega), getI_nat, List.getElem?_eq_getElem h, Option.bind_some]
      show s23_j1 (s23_l1 m) n l l (l.length : Int) (k : Int) l[k] (k : Int) ys = _
      unfold s23_j1 s23_j1F
      have hb := bl_len l[k] k (nb l[k]) 0
      have hn : nb l[k] ≤ 1024 := by unfold nb; omega
      rw [bits_ok (hp.b8 _ hmem) (by omega) (hp.sz _ hmem), Option.bind_some, range_ok _ _ (by omega), show (k : Int) + 1 = ((k + 1 : Nat) : Int) by omega, i64_nat (by omega),
        ih (k + 1) _ (by omega) (by omega) (by rw [List.length_append]; omega), List.drop_eq_getElem_cons h, List.append_assoc]
      rfl
    · rw [if_neg (by omega)]
      obtain rfl : k = l.length := by omega
      rw [List.drop_length]
      show _ = s23_l2 FUEL n l (l.length : Int) 0 (ys ++ [])
      rw [List.append_nil]
theorem get2_bits (n : Int) {l : List (List Int)} (hp : Pgs l) {i : Nat} (hi : i < l.length) (hq : l[i].length = 240) (R : Int → List (List Int) → Int → List Int → Option ((Unit × Int) × List Int)) : ∀ (m k : Nat) (ys : List Int), k ≤ 1024 → 1024 - k < m → ys.length ≤ 10000 + k →
    s25_l2 R m n l (i : Int) (k : Int) ys = R n l ((i + 1 : Nat) : Int) (ys ++ bl l[i] i (1024 - k) k) := by
  intro m
  induction m with
  | zero => intro k ys _ h; omega
  | succ m ih =>
    intro k ys hk hm hy
    have hf := hp.few
    show s25_l2B (s25_j1 (s25_l2 R m)) R n l (i : Int) (k : Int) ys = _
    unfold s25_l2B
    by_cases h : k < 1024
    · obtain ⟨z, hz, e, hb⟩ := byte_at (hp.b8 _ (List.getElem_mem hi)) (k := k) (by omega)
      have t3 : Int.tdiv (k : Int) 8 = ((k / 8 : Nat) : Int) := rfl
      have t4 : IntKind.u64.wrap (Int.tmod (k : Int) 8) = ((k % 8 : Nat) : Int) := u64_in _ (by have : Int.tmod (k : Int) 8 = ((k % 8 : Nat) : Int) := rfl; omega)
      rw [if_pos (by omega), getI_nat, List.getElem?_eq_getElem hi, Option.bind_some, if_pos (by decide), t3, t4, i64_nat (by omega), getI_nat, e, Option.bind_some, if_pos (by decide), if_pos (by omega), if_pos (by decide), shr_byte (by omega), place_ok (by omega) h]
      have t5 : Int.tmod ((z / 2 ^ (k % 8) : Nat) : Int) 2 = ((z / 2 ^ (k % 8) % 2 : Nat) : Int) := rfl
      rw [t5]
      have next : ∀ ys : List Int, ys.length ≤ 10000 + (k + 1) → s25_j1 (s25_l2 R m) n l (i : Int) (k : Int) ys = R n l ((i + 1 : Nat) : Int) (ys ++ bl l[i] i (1024 - (k + 1)) (k + 1)) := fun ys hy => by
        unfold s25_j1 s25_j1F
        rw [show (k : Int) + 1 = ((k + 1 : Nat) : Int) by omega, i64_nat (by omega), ih (k + 1) ys (by omega) (by omega) hy]
      obtain ⟨c, hc⟩ : ∃ c, 1024 - k = c + 1 := ⟨1024 - k - 1, by omega⟩
      rw [hc, bl_succ]
      have hc2 : 1024 - (k + 1) = c := by omega
      rw [hc2] at next
      by_cases hbit : z / 2 ^ (k % 8) % 2 = 1
      · rw [if_pos (by omega), if_pos (hb.2 hbit), appI_ok (by simp only [List.length_cons, List.length_nil]; omega), Option.bind_some, next _ (by simp only [List.length_append, List.length_cons, List.length_nil]; omega), List.append_assoc]
        rfl
      · rw [if_neg (by omega), if_neg (fun h => hbit (hb.1 h)), next _ (by omega)]
    · rw [if_neg (by omega), show 1024 - k = 0 by omega]
      show _ = R n l ((i + 1 : Nat) : Int) (ys ++ [])
      rw [List.append_nil, show (i : Int) + 1 = ((i + 1 : Nat) : Int) by omega, i64_nat (by omega)]
theorem get2_loop (n : Int) {l : List (List Int)} (hp : Pgs l) : ∀ (m k : Nat) (ys : List Int), k ≤ l.length → l.length - k < m → ys.length ≤ 1024 * k →
    s25_l1 m n l (k : Int) ys = if ∀ q ∈ l.drop k, q.length = 240 then s25_l3 FUEL n l 0 (ys ++ allB (l.drop k) k) else some (((), 80), []) := by
  intro m
  induction m with
  | zero => intro k ys _ h; omega
  | succ m ih =>
    intro k ys hk hm hy
    have hf := hp.few
    show s25_l1B (s25_l2 (s25_l1 m) FUEL) (s25_l3 FUEL) n l (k : Int) ys = _
    unfold s25_l1B
    by_cases h : k < l.length
    · have hmem : l[k] ∈ l := List.getElem_mem h
      rw [if_pos (by omega), getI_nat, List.getElem?_eq_getElem h, Option.bind_some, List.drop_eq_getElem_cons h]
      by_cases h1 : l[k].length = 240
      · rw [if_neg (by omega)]
        have hb := bl_len l[k] k 1024 0
        have e := get2_bits n hp h h1 (s25_l1 m) FUEL 0 ys (by omega) (by unfold FUEL; omega) (by omega)
        rw [show ((0 : Nat) : Int) = 0 from rfl, Nat.sub_zero] at e
        rw [e, ih (k + 1) _ (by omega) (by omega) (by rw [List.length_append]; omega)]
        have hn : nb l[k] = 1024 := by unfold nb; omega
        by_cases h2 : ∀ q ∈ l.drop (k + 1), q.length = 240
        · rw [if_pos h2, if_pos (fun q hq => by
            rcases List.mem_cons.1 hq with rfl | hq
            · exact h1
            · exact h2 q hq), List.append_assoc]
          conv => rhs; unfold allB
          rw [hn]
        · rw [if_neg h2, if_neg (fun h => h2 fun q hq => h q (List.mem_cons_of_mem _ hq))]
      · rw [if_pos (by omega), if_neg (fun h => h1 (h _ (List.mem_cons_self ..)))]
    · rw [if_neg (by omega)]
      obtain rfl : k = l.length := by omega
      rw [List.drop_length, if_pos (fun _ h => by cases h)]
      show _ = s25_l3 FUEL n l 0 (ys ++ [])
      rw [List.append_nil]
end Go.Proofs.YtofhmhbffdoiaaaDoor
