/- SX, part x: plain words: numbers without sign of any width, big-endian bytes, loops over lists, strings of bytes. -/
import Derived.Test.YtclnddebhjjpfaaDoorSXu
import Derived.Lib.Bytes
namespace Go.SX
open Go Go.RowKit

abbrev u8_in := Go.IntWalk.u8_in
abbrev u16_in := Go.IntWalk.u16_in
abbrev u32_in := Go.IntWalk.u32_in
theorem wrap_nat {k : IntKind} (hk : k.signed = false) (n : Nat) : k.wrap (n : Int) = ((n % 2 ^ k.bits : Nat) : Int) := by
  unfold IntKind.wrap
  simp [hk]
theorem wrap_lt {k : IntKind} (hk : k.signed = false) {n : Nat} (h : n < 2 ^ k.bits) : k.wrap (n : Int) = (n : Int) := by
  rw [wrap_nat hk, Nat.mod_eq_of_lt h]
theorem ofInt_toNat {k a : Nat} (h : a < 2 ^ k) : (BitVec.ofInt k (a : Int)).toNat = a := by
  rw [ofInt_nat, BitVec.toNat_ofNat, Nat.mod_eq_of_lt h]
theorem xorI_nat {k : IntKind} (hk : k.signed = false) {a b : Nat} (ha : a < 2 ^ k.bits) (hb : b < 2 ^ k.bits) : xorI k (a : Int) (b : Int) = ((a ^^^ b : Nat) : Int) := by
  unfold xorI
  rw [BitVec.toNat_xor, ofInt_toNat ha, ofInt_toNat hb]
  exact wrap_lt hk (Nat.xor_lt_two_pow ha hb)
theorem andI_nat {k : IntKind} (hk : k.signed = false) {a b : Nat} (ha : a < 2 ^ k.bits) (hb : b < 2 ^ k.bits) : andI k (a : Int) (b : Int) = ((a &&& b : Nat) : Int) := by
  unfold andI
  rw [BitVec.toNat_and, ofInt_toNat ha, ofInt_toNat hb]
  exact wrap_lt hk (Nat.lt_of_le_of_lt Nat.and_le_left ha)
theorem orI_nat {k : IntKind} (hk : k.signed = false) {a b : Nat} (ha : a < 2 ^ k.bits) (hb : b < 2 ^ k.bits) : orI k (a : Int) (b : Int) = ((a ||| b : Nat) : Int) := by
  unfold orI
  rw [BitVec.toNat_or, ofInt_toNat ha, ofInt_toNat hb]
  exact wrap_lt hk (Nat.or_lt_two_pow ha hb)
theorem shrI_nat {k : IntKind} {a s : Nat} (hs : s ≤ k.bits) : shrI k (a : Int) (s : Int) = ((a / 2 ^ s : Nat) : Int) := by
  unfold shrI
  have h1 : min (s : Int).toNat k.bits = s := by rw [Int.toNat_natCast]; exact Nat.min_eq_left hs
  rw [h1]
  have h2 : ((2 : Int) ^ s) = ((2 ^ s : Nat) : Int) := by simp
  rw [h2, Int.fdiv_eq_ediv_of_nonneg _ (Int.natCast_nonneg _)]
  rfl
theorem shlI_nat {k : IntKind} (hk : k.signed = false) {a s : Nat} (hs : s ≤ k.bits) : shlI k (a : Int) (s : Int) = ((a * 2 ^ s % 2 ^ k.bits : Nat) : Int) := by
  unfold shlI
  have h1 : min (s : Int).toNat k.bits = s := by rw [Int.toNat_natCast]; exact Nat.min_eq_left hs
  rw [h1]
  have h2 : ((a : Int) * (2 : Int) ^ s) = ((a * 2 ^ s : Nat) : Int) := by simp
  rw [h2, wrap_nat hk]
theorem cplI_nat {k : IntKind} (hk : k.signed = false) {a : Nat} (ha : a < 2 ^ k.bits) : cplI k (a : Int) = (((2 ^ k.bits - 1) ^^^ a : Nat) : Int) := by
  unfold cplI
  have hm : (if k.signed then (-1 : Int) else k.max) = ((2 ^ k.bits - 1 : Nat) : Int) := by
    have := Nat.two_pow_pos k.bits
    rw [hk]
    simp only [Bool.false_eq_true, if_false, IntKind.max, hk]
    rw [Int.ofNat_sub (by omega)]
    simp
  have hp := Nat.two_pow_pos k.bits
  rw [hm, BitVec.toNat_xor, ofInt_toNat (by omega), ofInt_toNat ha]
  exact wrap_lt hk (Nat.xor_lt_two_pow (by omega) ha)

/-- A loop over a list by its places. -/
theorem walk {σ τ ρ : Type} {xs : List τ} (f : σ → τ → σ) (P : σ → Prop) (K : σ → Option ρ) (L : Nat → σ → Int → Option ρ)
    (step : ∀ n s (i : Nat) x, xs[i]? = some x → P s → P (f s x) ∧ L (n + 1) s (i : Int) = L n (f s x) ((i + 1 : Nat) : Int))
    (stop : ∀ n s, P s → L (n + 1) s (xs.length : Int) = K s) :
    ∀ (fuel : Nat) (s : σ) (i : Nat), P s → i ≤ xs.length → xs.length - i < fuel → L fuel s (i : Int) = K ((xs.drop i).foldl f s) := by
  intro fuel
  induction fuel with
  | zero => intro s i _ _ h; omega
  | succ n ih =>
    intro s i hP hi hf
    by_cases h : i < xs.length
    · obtain ⟨h1, h2⟩ := step n s i xs[i] (List.getElem?_eq_getElem h) hP
      rw [h2, ih _ (i + 1) h1 (by omega) (by omega), List.drop_eq_getElem_cons h, List.foldl_cons]
    · obtain rfl : i = xs.length := by omega
      rw [stop n s hP, List.drop_length, List.foldl_nil]
/-- The same from the first place on. -/
theorem walk0 {σ τ ρ : Type} {xs : List τ} (f : σ → τ → σ) (P : σ → Prop) (K : σ → Option ρ) (L : Nat → σ → Int → Option ρ) (hlen : xs.length < FUEL) {s : σ} (h0 : P s)
    (step : ∀ n s (i : Nat) x, xs[i]? = some x → P s → P (f s x) ∧ L (n + 1) s (i : Int) = L n (f s x) ((i + 1 : Nat) : Int))
    (stop : ∀ n s, P s → L (n + 1) s (xs.length : Int) = K s) : L FUEL s 0 = K (xs.foldl f s) := by
  have := walk f P K L step stop FUEL s 0 h0 (by omega) (by omega)
  simpa using this
theorem foldl_inv {σ τ : Type} {f : σ → τ → σ} {P : σ → Prop} : ∀ (xs : List τ) (s : σ), P s → (∀ s x, x ∈ xs → P s → P (f s x)) → P (xs.foldl f s)
  | [], s, h, _ => h
  | x :: xs, s, h, hf => foldl_inv xs (f s x) (hf s x (List.mem_cons_self ..) h) fun s y hy => hf s y (List.mem_cons_of_mem _ hy)
theorem getI_nat {τ : Type} {xs : List τ} {i : Nat} : getI xs (i : Int) = xs[i]? := by
  unfold getI
  rw [if_pos (by omega), Int.toNat_natCast]
theorem setI_nat {τ : Type} {xs : List τ} {i : Nat} {x : τ} (h : i < xs.length) : setI xs (i : Int) x = some (xs.set i x) := by
  unfold setI
  rw [if_pos ⟨by omega, by omega⟩, Int.toNat_natCast]
theorem cutI_nat {τ : Type} {xs : List τ} {l h : Nat} (h1 : l ≤ h) (h2 : h ≤ xs.length) : cutI xs (l : Int) (h : Int) = some ((xs.drop l).take (h - l)) := by
  unfold cutI
  rw [if_pos ⟨by omega, by omega, by omega⟩, Int.toNat_natCast, Int.toNat_natCast]
theorem cutI_to {τ : Type} {xs : List τ} {h : Nat} (h2 : h ≤ xs.length) : cutI xs 0 (h : Int) = some (xs.take h) := by
  have := cutI_nat (xs := xs) (Nat.zero_le h) h2
  simpa using this
theorem cutI_from {τ : Type} {xs : List τ} {l : Nat} (h : l ≤ xs.length) : cutI xs (l : Int) (xs.length : Int) = some (xs.drop l) := by
  rw [cutI_nat h (Nat.le_refl _), List.take_of_length_le (by rw [List.length_drop]; omega)]
theorem appI_ok {τ : Type} {xs ys : List τ} {b : Nat} (h : (xs.length + ys.length) * b + (xs.length + ys.length) ≤ 140737488355328) : appI xs ys b = some (xs ++ ys) := if_pos h
theorem repI_nat {τ : Type} {n b : Nat} {x : τ} (h : n * b + n ≤ 140737488355328) : repI (n : Int) x b = some (List.replicate n x) := by
  unfold repI
  rw [if_pos ⟨by omega, by rw [← Int.natCast_mul, ← Int.natCast_add]; omega⟩, Int.toNat_natCast]
theorem i64_nat {n : Nat} (h : n ≤ 9223372036854775807) : IntKind.i64.wrap (n : Int) = (n : Int) := i64_in _ (by omega)

/-! ### Bytes -/
def B8 (l : List Int) : Prop := ∀ x ∈ l, 0 ≤ x ∧ x ≤ 255
theorem B8.nil : B8 [] := fun _ h => by cases h
theorem B8.cons {x : Int} {l : List Int} (h : 0 ≤ x ∧ x ≤ 255) (hl : B8 l) : B8 (x :: l) := fun y hy => by
  rcases List.mem_cons.1 hy with rfl | hy
  · exact h
  · exact hl y hy
theorem B8.append {k l : List Int} (h1 : B8 k) (h2 : B8 l) : B8 (k ++ l) := fun y hy => by
  rcases List.mem_append.1 hy with hy | hy
  · exact h1 y hy
  · exact h2 y hy
theorem B8.drop {l : List Int} (h : B8 l) (n : Nat) : B8 (l.drop n) := fun y hy => h y (List.mem_of_mem_drop hy)
theorem B8.take {l : List Int} (h : B8 l) (n : Nat) : B8 (l.take n) := fun y hy => h y (List.mem_of_mem_take hy)
theorem B8.rep (n : Nat) : B8 (List.replicate n (0 : Int)) := fun y hy => by rw [(List.mem_replicate.1 hy).2]; omega
theorem B8.of_wf {l : List Int} (h : ∀ x ∈ l, (Lit.int .u8 x).wf = true) : B8 l := fun x hx => wf_u8 (h x hx)
theorem B8.get {l : List Int} (h : B8 l) {i : Nat} {x : Int} (hx : l[i]? = some x) : 0 ≤ x ∧ x ≤ 255 := h x (List.mem_of_getElem? hx)
theorem bytesOf_inj : ∀ {k l : List Int}, B8 k → B8 l → Lib.bytesOf k = Lib.bytesOf l → k = l
  | [], [], _, _, _ => rfl
  | [], y :: l, _, _, h => by simp [Lib.bytesOf] at h
  | x :: k, [], _, _, h => by simp [Lib.bytesOf] at h
  | x :: k, y :: l, h1, h2, h => by
    simp only [Lib.bytesOf, List.map_cons, List.cons.injEq] at h
    have hx := h1 x (List.mem_cons_self ..)
    have hy := h2 y (List.mem_cons_self ..)
    have e : (UInt8.ofNat x.toNat).toNat = (UInt8.ofNat y.toNat).toNat := by rw [h.1]
    rw [UInt8.toNat_ofNat', UInt8.toNat_ofNat', Nat.mod_eq_of_lt (by omega), Nat.mod_eq_of_lt (by omega)] at e
    have ih := bytesOf_inj (fun z hz => h1 z (List.mem_cons_of_mem _ hz)) (fun z hz => h2 z (List.mem_cons_of_mem _ hz)) (by simpa [Lib.bytesOf] using h.2)
    rw [ih, show x = y by omega]
theorem str_eq {k l : List Int} (h1 : B8 k) (h2 : B8 l) : ((strOfNums k).toList = (strOfNums l).toList) ↔ k = l := by
  rw [Lib.strOfNums_toList, Lib.strOfNums_toList]
  exact ⟨bytesOf_inj h1 h2, fun h => by rw [h]⟩
/-- n bytes of a number, the highest one first. -/
def be : Nat → Nat → List Int
  | 0, _ => []
  | n + 1, v => be n (v / 256) ++ [((v % 256 : Nat) : Int)]
theorem be_len : ∀ (n v : Nat), (be n v).length = n
  | 0, _ => rfl
  | n + 1, v => by simp [be, be_len n]
theorem be_B8 : ∀ (n v : Nat), B8 (be n v)
  | 0, _ => B8.nil
  | n + 1, v => (be_B8 n _).append (B8.cons (by omega) B8.nil)
theorem be_high : ∀ (n v : Nat), be (n + 1) v = ((v / 256 ^ n % 256 : Nat) : Int) :: be n v
  | 0, v => by simp [be]
  | n + 1, v => by
    rw [be, be_high n, Nat.div_div_eq_div_mul, Nat.pow_succ', List.cons_append]
    rfl
/-- The number that bytes tell. -/
def ofbe (l : List Int) : Nat := l.foldl (fun v c => v * 256 + c.toNat) 0
theorem ofbe_append (l : List Int) (c : Int) : ofbe (l ++ [c]) = ofbe l * 256 + c.toNat := by simp [ofbe]
theorem ofbe_be : ∀ (n v : Nat), ofbe (be n v) = v % 256 ^ n
  | 0, v => by simp [be, ofbe, Nat.mod_one]
  | n + 1, v => by
    rw [be, ofbe_append, ofbe_be n, Int.toNat_natCast, Nat.pow_succ', Nat.mod_mul]
    omega
theorem ofbe_lt {l : List Int} (h : B8 l) : ofbe l < 256 ^ l.length := by
  have key : ∀ (m : Nat) (l : List Int), l.length = m → B8 l → ofbe l < 256 ^ m := by
    intro m
    induction m with
    | zero => intro l hl _; rw [List.eq_nil_of_length_eq_zero hl]; simp [ofbe]
    | succ m ih =>
      intro l hl hb
      have hne : l ≠ [] := by intro h0; subst h0; simp at hl
      have e := List.dropLast_concat_getLast hne
      have h1 := ih l.dropLast (by simp [hl]) (fun x hx => hb x (List.dropLast_subset _ hx))
      have h2 := hb _ (List.getLast_mem hne)
      rw [← e, ofbe_append, Nat.pow_succ]
      omega
  exact key _ l rfl h
theorem be_ofbe {l : List Int} (h : B8 l) : be l.length (ofbe l) = l := by
  have key : ∀ (m : Nat) (l : List Int), l.length = m → B8 l → be m (ofbe l) = l := by
    intro m
    induction m with
    | zero => intro l hl _; rw [List.eq_nil_of_length_eq_zero hl]; rfl
    | succ m ih =>
      intro l hl hb
      have hne : l ≠ [] := by intro h0; subst h0; simp at hl
      have e := List.dropLast_concat_getLast hne
      have h1 := ih l.dropLast (by simp [hl]) (fun x hx => hb x (List.dropLast_subset _ hx))
      have h2 := hb _ (List.getLast_mem hne)
      rw [← e, ofbe_append, be]
      rw [show (ofbe l.dropLast * 256 + (l.getLast hne).toNat) / 256 = ofbe l.dropLast by omega, show (ofbe l.dropLast * 256 + (l.getLast hne).toNat) % 256 = (l.getLast hne).toNat by omega, h1]
      congr 2
      omega
  exact key _ l rfl h
end Go.SX
