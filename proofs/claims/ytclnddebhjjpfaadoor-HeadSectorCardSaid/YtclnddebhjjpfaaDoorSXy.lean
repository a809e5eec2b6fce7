/- SX, part y: the sum of bytes (CRC-32C), bit by bit: it is linear, and no step loses anything. -/
import Derived.Test.YtclnddebhjjpfaaDoorSXx
import Derived.KernelRfl
namespace Go.SX
open Go Go.RowKit

def cstep (r : Nat) : Nat := if r % 2 = 1 then (r / 2) ^^^ 2197175160 else r / 2
def csteps : Nat → Nat → Nat
  | 0, r => r
  | n + 1, r => csteps n (cstep r)
def cbyte (r : Nat) (c : Int) : Nat := csteps 8 (r ^^^ c.toNat)
def cby (r : Nat) (l : List Int) : Nat := l.foldl cbyte r
def crcOf (l : List Int) : Nat := 4294967295 ^^^ cby 4294967295 l
theorem cstep_lt {r : Nat} (h : r < 4294967296) : cstep r < 4294967296 := by
  unfold cstep
  split
  · exact Nat.xor_lt_two_pow (n := 32) (by omega) (by omega)
  · omega
theorem csteps_lt : ∀ (n : Nat) {r : Nat}, r < 4294967296 → csteps n r < 4294967296
  | 0, _, h => h
  | n + 1, _, h => csteps_lt n (cstep_lt h)
theorem B8.lt {l : List Int} (h : B8 l) {x : Int} (hx : x ∈ l) : x.toNat < 256 := by have := h x hx; omega
theorem cbyte_lt {r : Nat} {c : Int} (h : r < 4294967296) (hc : c.toNat < 4294967296) : cbyte r c < 4294967296 := csteps_lt 8 (Nat.xor_lt_two_pow (n := 32) h hc)
theorem cby_lt {l : List Int} (hl : B8 l) {r : Nat} (h : r < 4294967296) : cby r l < 4294967296 :=
  foldl_inv (P := fun r => r < 4294967296) l r h fun s x hx hs => cbyte_lt hs (by have := hl.lt hx; omega)
theorem crcOf_lt {l : List Int} (hl : B8 l) : crcOf l < 4294967296 := Nat.xor_lt_two_pow (n := 32) (by decide) (cby_lt hl (by decide))
theorem xor_swap (a b c d : Nat) : (a ^^^ b) ^^^ (c ^^^ d) = (a ^^^ c) ^^^ (b ^^^ d) := by
  rw [Nat.xor_assoc, Nat.xor_assoc, ← Nat.xor_assoc b c d, ← Nat.xor_assoc c b d, Nat.xor_comm b c]
theorem cstep_xor (a b : Nat) : cstep (a ^^^ b) = cstep a ^^^ cstep b := by
  unfold cstep
  have h1 : (a ^^^ b) / 2 = a / 2 ^^^ b / 2 := Nat.xor_div_two
  have h2 : (a ^^^ b) % 2 = 1 ↔ ¬ (a % 2 = 1 ↔ b % 2 = 1) := Nat.xor_mod_two_eq_one
  rw [h1]
  by_cases ha : a % 2 = 1 <;> by_cases hb : b % 2 = 1
  · rw [if_neg (by rw [h2]; simp [ha, hb]), if_pos ha, if_pos hb]
    rw [xor_swap, Nat.xor_self, Nat.xor_zero]
  · rw [if_pos (by rw [h2]; simp [ha, hb]), if_pos ha, if_neg hb]
    rw [Nat.xor_assoc, Nat.xor_comm (b / 2), ← Nat.xor_assoc]
  · rw [if_pos (by rw [h2]; simp [ha, hb]), if_neg ha, if_pos hb]
    rw [Nat.xor_assoc]
  · rw [if_neg (by rw [h2]; simp [ha, hb]), if_neg ha, if_neg hb]
theorem csteps_xor : ∀ (n a b : Nat), csteps n (a ^^^ b) = csteps n a ^^^ csteps n b
  | 0, _, _ => rfl
  | n + 1, a, b => by rw [csteps, cstep_xor, csteps_xor n]; rfl
theorem csteps_zero : ∀ (n : Nat), csteps n 0 = 0
  | 0 => rfl
  | n + 1 => csteps_zero n
theorem csteps_add : ∀ (m n r : Nat), csteps (m + n) r = csteps n (csteps m r)
  | 0, n, r => by rw [Nat.zero_add]; rfl
  | m + 1, n, r => by rw [show m + 1 + n = (m + n) + 1 by omega, csteps, csteps_add m n]; rfl
theorem xor_zero_eq {a b : Nat} (h : a ^^^ b = 0) : a = b := by
  have : a ^^^ b ^^^ b = b := by rw [h, Nat.zero_xor]
  rwa [Nat.xor_assoc, Nat.xor_self, Nat.xor_zero] at this
theorem xor_self_zero {u v : Nat} (h : u ^^^ v = u) : v = 0 := by
  have : u ^^^ (u ^^^ v) = u ^^^ u := by rw [h]
  rwa [← Nat.xor_assoc, Nat.xor_self, Nat.zero_xor] at this
theorem cstep_ne {r : Nat} (hr : r < 4294967296) (h : r ≠ 0) : cstep r ≠ 0 := by
  unfold cstep
  split
  · rename_i h1
    intro h2
    have h3 : r / 2 = 2197175160 := xor_zero_eq h2
    omega
  · omega
theorem csteps_ne : ∀ (n : Nat) {r : Nat}, r < 4294967296 → r ≠ 0 → csteps n r ≠ 0
  | 0, _, _, h => h
  | n + 1, _, hr, h => csteps_ne n (cstep_lt hr) (cstep_ne hr h)
theorem cstep_even (h : Nat) : cstep (2 * h) = h := by
  unfold cstep
  rw [if_neg (by omega)]
  omega
theorem csteps_pow : ∀ (n h : Nat), csteps n (2 ^ n * h) = h
  | 0, h => by simp [csteps]
  | n + 1, h => by rw [csteps, Nat.pow_succ', Nat.mul_assoc, cstep_even, csteps_pow n]
theorem split_xor {k h l : Nat} (hl : l < 2 ^ k) : 2 ^ k * h + l = 2 ^ k * h ^^^ l := by
  apply Nat.eq_of_testBit_eq
  intro i
  rw [Nat.testBit_two_pow_mul_add _ hl, Nat.testBit_xor, Nat.testBit_two_pow_mul]
  by_cases hi : i < k
  · simp [hi, Nat.not_le.2 hi]
  · have : l.testBit i = false := Nat.testBit_lt_two_pow (Nat.lt_of_lt_of_le hl (Nat.pow_le_pow_right (by decide) (by omega)))
    simp [hi, this, Nat.not_lt.1 hi]
theorem csteps_split {n r : Nat} : csteps n r = (r / 2 ^ n) ^^^ csteps n (r % 2 ^ n) := by
  have h := split_xor (k := n) (h := r / 2 ^ n) (l := r % 2 ^ n) (Nat.mod_lt _ (Nat.two_pow_pos n))
  rw [Nat.div_add_mod] at h
  have h2 : csteps n r = csteps n (2 ^ n * (r / 2 ^ n) ^^^ r % 2 ^ n) := by rw [← h]
  rw [h2, csteps_xor, csteps_pow]
/-- Two texts of one length, added bit by bit. -/
def xorL : List Int → List Int → List Int
  | a :: l, b :: m => (((a.toNat ^^^ b.toNat : Nat) : Int)) :: xorL l m
  | _, _ => []
theorem cby_xor : ∀ (l m : List Int) (r s : Nat), l.length = m.length → cby (r ^^^ s) (xorL l m) = cby r l ^^^ cby s m
  | [], [], r, s, _ => rfl
  | a :: l, b :: m, r, s, h => by
    show cby (cbyte (r ^^^ s) _) (xorL l m) = cby (cbyte r a) l ^^^ cby (cbyte s b) m
    rw [← cby_xor l m _ _ (by simpa using h)]
    congr 1
    unfold cbyte
    rw [Int.toNat_natCast, xor_swap, csteps_xor]
  | [], _ :: _, _, _, h => by simp at h
  | _ :: _, [], _, _, h => by simp at h
theorem cby_append (l m : List Int) (r : Nat) : cby r (l ++ m) = cby (cby r l) m := by simp [cby]
theorem cby_zeros : ∀ (n r : Nat), cby r (List.replicate n 0) = csteps (8 * n) r
  | 0, _ => rfl
  | n + 1, r => by
    show cby (cbyte r 0) (List.replicate n 0) = _
    rw [cby_zeros n, show 8 * (n + 1) = 8 + 8 * n by omega, csteps_add]
    congr 1
    unfold cbyte
    simp
/-- Four bytes of a number, the lowest one first. -/
def le4 (v : Nat) : List Int := [((v % 256 : Nat) : Int), ((v / 256 % 256 : Nat) : Int), ((v / 65536 % 256 : Nat) : Int), ((v / 16777216 % 256 : Nat) : Int)]
theorem csteps8_in (a b : Nat) (h : a < 256) : csteps 8 a ^^^ b = csteps 8 (256 * b + a) := by
  have := split_xor (k := 8) (h := b) (l := a) h
  rw [show 256 * b + a = 2 ^ 8 * b ^^^ a from this, csteps_xor, csteps_pow, Nat.xor_comm]
theorem cby_le4 {v : Nat} (hv : v < 4294967296) : cby 0 (le4 v) = csteps 32 v := by
  have key : ∀ (x y : Nat), cby 0 [] = 0 → True := fun _ _ _ => trivial
  show csteps 8 (csteps 8 (csteps 8 (csteps 8 (0 ^^^ (((v % 256 : Nat) : Int)).toNat) ^^^ (((v / 256 % 256 : Nat) : Int)).toNat) ^^^ (((v / 65536 % 256 : Nat) : Int)).toNat) ^^^ (((v / 16777216 % 256 : Nat) : Int)).toNat) = _
  rw [Nat.zero_xor, Int.toNat_natCast, Int.toNat_natCast, Int.toNat_natCast, Int.toNat_natCast]
  -- push each byte under the steps of those ahead of it
  have e1 : csteps 8 (v % 256) ^^^ (v / 256 % 256) = csteps 8 (v % 65536) := by
    rw [csteps8_in _ _ (by omega)]; congr 1; omega
  have e2 : csteps 8 (csteps 8 (v % 65536)) ^^^ (v / 65536 % 256) = csteps 16 (v % 16777216) := by
    rw [← csteps_add]
    have := split_xor (k := 16) (h := v / 65536 % 256) (l := v % 65536) (by omega)
    rw [show v % 16777216 = 2 ^ 16 * (v / 65536 % 256) ^^^ v % 65536 by rw [← this]; omega, csteps_xor, csteps_pow, Nat.xor_comm]
  have e3 : csteps 8 (csteps 16 (v % 16777216)) ^^^ (v / 16777216 % 256) = csteps 24 v := by
    rw [← csteps_add]
    have := split_xor (k := 24) (h := v / 16777216 % 256) (l := v % 16777216) (by omega)
    have h2 : v = 2 ^ 24 * (v / 16777216 % 256) ^^^ v % 16777216 := by rw [← this]; omega
    have h3 : csteps 24 v = csteps 24 (2 ^ 24 * (v / 16777216 % 256) ^^^ v % 16777216) := congrArg _ h2
    rw [h3, csteps_xor, csteps_pow, Nat.xor_comm]
  rw [e1, e2, e3, ← csteps_add]
/-- A text that differs in four bytes in a row has another sum. -/
theorem burst {pre post : List Int} {x y : List Int} {v : Nat} (hv : v < 4294967296) (h0 : v ≠ 0) (hx : x.length = 4) (hy : y = xorL x (le4 v)) :
    crcOf (pre ++ y ++ post) ≠ crcOf (pre ++ x ++ post) := by
  have hxl : x.length = (le4 v).length := by rw [hx]; rfl
  have e : cby 4294967295 (pre ++ y ++ post) = cby 4294967295 (pre ++ x ++ post) ^^^ csteps (32 + 8 * post.length) v := by
    rw [cby_append, cby_append, cby_append, cby_append, hy]
    have h1 := cby_xor x (le4 v) (cby 4294967295 pre) 0 hxl
    rw [Nat.xor_zero] at h1
    rw [h1, cby_le4 hv]
    have h2 : ∀ (l : List Int) (r s : Nat), cby (r ^^^ s) l = cby r l ^^^ csteps (8 * l.length) s := by
      intro l
      induction l with
      | nil => intro r s; rfl
      | cons a l ih =>
        intro r s
        show cby (cbyte (r ^^^ s) a) l = cby (cbyte r a) l ^^^ _
        have : cbyte (r ^^^ s) a = cbyte r a ^^^ csteps 8 s := by
          unfold cbyte
          rw [← csteps_xor]
          congr 1
          rw [Nat.xor_assoc, Nat.xor_comm s, ← Nat.xor_assoc]
        rw [this, ih, List.length_cons, show 8 * (l.length + 1) = 8 + 8 * l.length by omega, csteps_add]
    rw [h2, csteps_add]
  intro h
  unfold crcOf at h
  rw [e, ← Nat.xor_assoc] at h
  have h3 : csteps (32 + 8 * post.length) v = 0 := xor_self_zero h
  exact csteps_ne _ hv h0 h3
end Go.SX
