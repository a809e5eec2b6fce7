/- Plain laws of the free map, part 1: which lists of pages may be; what a page of the map bears is the document's. -/
import Derived.Test.YtofhmhbffdoiaaaDoorG
import Derived.Test.YtofhmhbffdoiaaaDoorSXx
import Derived.KernelRfl
namespace Go.Proofs.YtofhmhbffdoiaaaDoor
open Go Go.SX Go.VX
set_option maxRecDepth 100000
set_option linter.unusedVariables false
set_option linter.unusedSimpArgs false

theorem s9_ok : s9 = some true := by kernel_rfl
def mayP (n : Int) : Bool := decide (8 ≤ n ∧ n ≤ 2048)
theorem may_ok (n : Int) : s38 n = some (mayP n) := by
  unfold s38 s38F mayP
  by_cases h : n ≥ 8
  · rw [if_pos h]; congr 1; rw [decide_eq_decide]; omega
  · rw [if_neg h, decide_eq_false (by omega)]
theorem may2_ok (n : Int) : s53 n = some (mayP n) := may_ok n
def needV (n : Int) : Int := if mayP n = true then IntKind.i64.wrap (1 + IntKind.i64.wrap (Int.tdiv (IntKind.i64.wrap (n - 1)) 1024)) else 0
theorem need_ok (n : Int) : s20 n = some (needV n) := by
  unfold s20 s20F needV
  rw [may_ok, Option.bind_some]
  cases mayP n <;> simp
theorem need2_ok (n : Int) : s26 n = some (needV n) := need_ok n
/-- A list of pages: each behind the last one, all below n. -/
def Lst (n : Int) : Int → List Int → Bool
  | _, [] => true
  | last, p :: r => if p ≤ last ∨ p ≥ n then false else Lst n p r
theorem lst_loop (n : Int) {xs : List Int} (hx : xs.length ≤ 1000000) : ∀ (m k : Nat) (last : Int), k ≤ xs.length → xs.length - k < m → s39_l1 m n last xs (xs.length : Int) (k : Int) = some (Lst n last (xs.drop k)) := by
  intro m
  induction m with
  | zero => intro k last _ h; omega
  | succ m ih =>
    intro k last hk hm
    show s39_l1B (s39_j1 (s39_l1 m)) n last xs (xs.length : Int) (k : Int) = _
    unfold s39_l1B
    by_cases h : k < xs.length
    · rw [if_pos (by omega), getI_nat, List.getElem?_eq_getElem h, Option.bind_some, List.drop_eq_getElem_cons h]
      by_cases h1 : xs[k] ≤ last
      · rw [if_pos h1]; simp [s39_j1, s39_j1F, Lst, h1]
      · rw [if_neg h1]
        unfold s39_j1 s39_j1F
        by_cases h2 : xs[k] ≥ n
        · simp [Lst, h1, h2]
        · rw [decide_eq_false h2]
          simp only [Bool.false_eq_true, if_false]
          rw [show (k : Int) + 1 = ((k + 1 : Nat) : Int) by omega, i64_nat (by omega), ih (k + 1) _ (by omega) (by omega)]
          conv => rhs; unfold Lst
          rw [if_neg (by omega)]
    · rw [if_neg (by omega)]
      obtain rfl : k = xs.length := by omega
      rw [List.drop_length]; rfl
theorem lst_ok (n : Int) {xs : List Int} (hx : xs.length ≤ 1000000) : s39 n xs = some (Lst n (-1) xs) := by
  have := lst_loop n hx FUEL 0 (-1) (by omega) (by unfold FUEL; omega)
  rw [List.drop_zero] at this
  exact this
def lastAt (xs : List Int) (k : Nat) : Int := if k = 0 then -1 else xs.getD (k - 1) 0
theorem lst2_loop (n : Int) {xs : List Int} (hx : xs.length ≤ 1000000) : ∀ (m k : Nat), k ≤ xs.length → xs.length - k < m → -1 ≤ lastAt xs k → s22_l1 m n xs (k : Int) = some (Lst n (lastAt xs k) (xs.drop k)) := by
  intro m
  induction m with
  | zero => intro k _ h; omega
  | succ m ih =>
    intro k hk hm hl
    show s22_l1B (s22_j1 (s22_l1 m)) n xs (k : Int) = _
    unfold s22_l1B
    by_cases h : k < xs.length
    · rw [if_pos (by omega), getI_nat, List.getElem?_eq_getElem h]
      simp only [Option.bind_some]
      rw [List.drop_eq_getElem_cons h]
      by_cases h1 : xs[k] < 0
      · rw [if_pos h1]; unfold Lst; rw [if_pos (Or.inl (by omega))]; rfl
      · rw [if_neg h1]
        by_cases h2 : xs[k] ≥ n
        · rw [if_pos h2]; unfold Lst; rw [if_pos (Or.inr h2)]; rfl
        · rw [if_neg h2]
          have next : ∀ (hb : ¬ xs[k] ≤ lastAt xs k), s22_j1 (s22_l1 m) n xs (k : Int) false = some (Lst n (lastAt xs k) (xs[k] :: xs.drop (k + 1))) := fun hb => by
            unfold s22_j1 s22_j1F
            simp only [Bool.false_eq_true, if_false]
            have e : lastAt xs (k + 1) = xs[k] := by
              unfold lastAt
              rw [if_neg (by omega), Nat.add_sub_cancel, List.getD_eq_getElem?_getD, List.getElem?_eq_getElem h]; rfl
            rw [show (k : Int) + 1 = ((k + 1 : Nat) : Int) by omega, i64_nat (by omega), ih (k + 1) (by omega) (by omega) (by rw [e]; omega), e]
            conv => rhs; unfold Lst
            rw [if_neg (by omega)]
          by_cases h3 : (k : Int) > 0
          · rw [if_pos h3]
            have hk1 : k - 1 < xs.length := by omega
            rw [show (k : Int) - 1 = ((k - 1 : Nat) : Int) by omega, i64_nat (by omega), getI_nat, List.getElem?_eq_getElem hk1]
            simp only [Option.bind_some]
            have e : lastAt xs k = xs[k - 1] := by
              unfold lastAt
              rw [if_neg (by omega), List.getD_eq_getElem?_getD, List.getElem?_eq_getElem hk1]; rfl
            by_cases h4 : xs[k - 1] ≥ xs[k]
            · rw [decide_eq_true h4]; unfold Lst; rw [if_pos (Or.inl (by omega))]; rfl
            · rw [decide_eq_false h4]; exact next (by omega)
          · rw [if_neg h3]
            have e : lastAt xs k = -1 := by unfold lastAt; rw [if_pos (by omega)]
            exact next (by omega)
    · rw [if_neg (by omega)]
      obtain rfl : k = xs.length := by omega
      rw [List.drop_length]; rfl
theorem lst2_ok (n : Int) {xs : List Int} (hx : xs.length ≤ 1000000) : s22 n xs = some (Lst n (-1) xs) := by
  have := lst2_loop n hx FUEL 0 (by omega) (by unfold FUEL; omega) (by unfold lastAt; simp)
  rw [List.drop_zero] at this
  exact this
theorem Lst.lt {n : Int} : ∀ {last : Int} {xs : List Int}, Lst n last xs = true → -1 ≤ last → ∀ x ∈ xs, 0 ≤ x ∧ x < n
  | _, [], _, _, x, hx => by cases hx
  | last, p :: r, h, hl, x, hx => by
    unfold Lst at h
    by_cases h1 : p ≤ last ∨ p ≥ n
    · rw [if_pos h1] at h; cases h
    · rw [if_neg h1] at h
      rcases List.mem_cons.1 hx with rfl | hx
      · omega
      · exact Lst.lt h (by omega) x hx
/-- A page's bit is set. -/
def upd (i : Int) (b : List Int) (x : Int) : List Int :=
  if ((x.toNat / 1024 : Nat) : Int) = i then b.set (x.toNat % 1024 / 8) (orI .u8 (b.getD (x.toNat % 1024 / 8) 0) (shlI .u8 1 ((x.toNat % 1024 % 8 : Nat) : Int))) else b
theorem or_byte {a : Int} (h : 0 ≤ a ∧ a ≤ 255) {c : Nat} (hc : c < 8) : 0 ≤ orI .u8 a (shlI .u8 1 (c : Int)) ∧ orI .u8 a (shlI .u8 1 (c : Int)) ≤ 255 := by
  obtain ⟨z, rfl⟩ : ∃ z : Nat, a = z := ⟨a.toNat, by omega⟩
  have e := shlI_nat (k := .u8) rfl (a := 1) (s := c) (by show c ≤ 8; omega)
  rw [show ((1 : Nat) : Int) = 1 from rfl] at e
  have h2 : 1 * 2 ^ c % 2 ^ IntKind.bits .u8 < 2 ^ IntKind.bits .u8 := Nat.mod_lt _ (by decide)
  rw [e, orI_nat (k := .u8) rfl (by show _ < 256; omega) h2]
  have := Nat.or_lt_two_pow (n := 8) (x := z) (by omega) h2
  omega
theorem upd_fine {i : Int} {b : List Int} {x : Int} (h : b.length = 240 ∧ B8 b) : (upd i b x).length = 240 ∧ B8 (upd i b x) := by
  unfold upd
  split
  · refine ⟨by rw [List.length_set]; exact h.1, fun y hy => ?_⟩
    rcases List.mem_or_eq_of_mem_set hy with hy | rfl
    · exact h.2 y hy
    · refine or_byte ?_ (by omega)
      rw [List.getD_eq_getElem?_getD]
      cases hq : b[x.toNat % 1024 / 8]? with
      | none => simp
      | some v => exact h.2.get hq
  · exact h
theorem put_step {i : Int} {b : List Int} {x : Int} (hx : 0 ≤ x ∧ x < 2048) (hb : b.length = 240) {K : List Int → Option ((Unit × Int) × List Int)} {r : Int} (hr : r = Int.tmod (Int.tmod x 1024) 8) :
    (if (1024 : Int) ≠ 0 then
  if (IntKind.i64.wrap (Int.tdiv x 1024)) = i then
  if (1024 : Int) ≠ 0 then
  if (8 : Int) ≠ 0 then
  if 0 ≤ (IntKind.i64.wrap (Int.tdiv (Int.tmod x 1024) 8)) ∧ (IntKind.i64.wrap (Int.tdiv (Int.tmod x 1024) 8)) < (b.length : Int) then
  (getI b (IntKind.i64.wrap (Int.tdiv (Int.tmod x 1024) 8))).bind fun x15 =>
  if (8 : Int) ≠ 0 then
  if (0 : Int) ≤ r then
  if 0 ≤ (IntKind.i64.wrap (Int.tdiv (Int.tmod x 1024) 8)) ∧ (IntKind.i64.wrap (Int.tdiv (Int.tmod x 1024) 8)) < (b.length : Int) then
  (setI b (IntKind.i64.wrap (Int.tdiv (Int.tmod x 1024) 8)) (orI .u8 x15 (shlI .u8 1 r))).bind K
  else none
  else none
  else none
  else none
  else none
  else none
  else K b else none) = K (upd i b x) := by
  obtain ⟨y, rfl⟩ : ∃ y : Nat, x = y := ⟨x.toNat, by omega⟩
  have t1 : Int.tdiv (y : Int) 1024 = ((y / 1024 : Nat) : Int) := rfl
  have t2 : Int.tmod (y : Int) 1024 = ((y % 1024 : Nat) : Int) := rfl
  have t3 : Int.tdiv ((y % 1024 : Nat) : Int) 8 = ((y % 1024 / 8 : Nat) : Int) := rfl
  have t4 : Int.tmod ((y % 1024 : Nat) : Int) 8 = ((y % 1024 % 8 : Nat) : Int) := rfl
  subst hr
  have hlt : y % 1024 / 8 < b.length := by omega
  rw [t1, t2, t3, t4, i64_nat (by omega), i64_nat (by omega), getI_nat, List.getElem?_eq_getElem hlt]
  simp only [Option.bind_some]
  rw [setI_nat hlt, Option.bind_some, if_pos (by decide)]
  unfold upd
  rw [Int.toNat_natCast]
  by_cases h : ((y / 1024 : Nat) : Int) = i
  · rw [if_pos h, if_pos h, if_pos (by decide), if_pos (by decide), if_pos (by omega), if_pos (by decide), if_pos (by omega), if_pos (by omega), List.getD_eq_getElem?_getD, List.getElem?_eq_getElem hlt]
    rfl
  · rw [if_neg h, if_neg h]
def put0 : List Int := List.replicate 240 0
def putV (n : Int) (xs : List Int) (i : Int) : (Unit × Int) × List Int :=
  if mayP n = true ∧ Lst n (-1) xs = true ∧ 0 ≤ i ∧ i < needV n then (((), 0), xs.foldl (upd i) put0) else (((), 1), [])
theorem put0_fine : put0.length = 240 ∧ B8 put0 := ⟨List.length_replicate, B8.rep _⟩
theorem putV_fine {n : Int} {xs : List Int} {i : Int} (h : (putV n xs i).1.2 = 0) : (putV n xs i).2.length = 240 ∧ B8 (putV n xs i).2 := by
  unfold putV at h ⊢
  split
  · exact foldl_inv (P := fun b => b.length = 240 ∧ B8 b) xs put0 put0_fine fun s x _ hs => upd_fine hs
  · rename_i hh; rw [if_neg hh] at h; cases h
theorem put_loop (i : Int) {xs : List Int} (hx : xs.length ≤ 1000000) (hp : ∀ x ∈ xs, 0 ≤ x ∧ x < 2048) : s21_l1 FUEL i xs (xs.length : Int) 0 put0 = some (((), 0), xs.foldl (upd i) put0) :=
  walk0 (upd i) (fun b => b.length = 240 ∧ B8 b) (fun b => some (((), 0), b)) (fun m b k => s21_l1 m i xs (xs.length : Int) k b) (by unfold FUEL; omega) put0_fine
    (fun m b k x hk hb => ⟨upd_fine hb, by
      have hlt : k < xs.length := (List.getElem?_eq_some_iff.1 hk).1
      show s21_l1B (s21_j2 (s21_l1 m)) i xs (xs.length : Int) (k : Int) b = _
      unfold s21_l1B
      rw [if_pos (by omega), getI_nat, hk, Option.bind_some]
      have := put_step (i := i) (b := b) (x := x) (K := fun b => s21_j2 (s21_l1 m) i xs (xs.length : Int) (k : Int) b) (hp x (List.mem_of_getElem? hk)) hb.1 rfl
      refine this.trans ?_
      unfold s21_j2 s21_j2F
      rw [show (k : Int) + 1 = ((k + 1 : Nat) : Int) by omega, i64_nat (by omega)]⟩)
    (fun m b hb => by
      show s21_l1B (s21_j2 (s21_l1 m)) i xs (xs.length : Int) (xs.length : Int) b = _
      unfold s21_l1B
      rw [if_neg (by omega)])
theorem put2_loop (i : Int) {xs : List Int} (hx : xs.length ≤ 1000000) (hp : ∀ x ∈ xs, 0 ≤ x ∧ x < 2048) : s24_l1 FUEL xs i 0 put0 = some (((), 0), xs.foldl (upd i) put0) :=
  walk0 (upd i) (fun b => b.length = 240 ∧ B8 b) (fun b => some (((), 0), b)) (fun m b k => s24_l1 m xs i k b) (by unfold FUEL; omega) put0_fine
    (fun m b k x hk hb => ⟨upd_fine hb, by
      have hlt : k < xs.length := (List.getElem?_eq_some_iff.1 hk).1
      show s24_l1B (s24_j2 (s24_l1 m)) xs i (k : Int) b = _
      unfold s24_l1B
      rw [if_pos (by omega), getI_nat, hk]
      simp only [Option.bind_some]
      have hxx := hp x (List.mem_of_getElem? hk)
      have := put_step (i := i) (b := b) (x := x) (K := fun b => s24_j2 (s24_l1 m) xs i (k : Int) b) (r := IntKind.u64.wrap (Int.tmod (Int.tmod x 1024) 8)) hxx hb.1 (by
        obtain ⟨y, rfl⟩ : ∃ y : Nat, x = y := ⟨x.toNat, by omega⟩
        have t4 : Int.tmod (Int.tmod (y : Int) 1024) 8 = ((y % 1024 % 8 : Nat) : Int) := rfl
        rw [t4]
        exact u64_in _ (by omega))
      refine this.trans ?_
      unfold s24_j2 s24_j2F
      rw [show (k : Int) + 1 = ((k + 1 : Nat) : Int) by omega, i64_nat (by omega)]⟩)
    (fun m b hb => by
      show s24_l1B (s24_j2 (s24_l1 m)) xs i (xs.length : Int) b = _
      unfold s24_l1B
      rw [if_neg (by omega)])
theorem mayP_le {n : Int} (h : mayP n = true) : n ≤ 2048 := (of_decide_eq_true h).2
theorem rep240 : repI 240 (0 : Int) 1 = some put0 := by kernel_rfl
theorem put_ok (n : Int) {xs : List Int} (hx : xs.length ≤ 1000000) (i : Int) : s21 n xs i = some (putV n xs i) := by
  unfold s21 s21F putV
  rw [may_ok, lst_ok n hx, need_ok]
  simp only [Option.bind_some]
  have no : s21_j1 xs i true = some (((), 1), []) := rfl
  by_cases h1 : mayP n = true
  · by_cases h2 : Lst n (-1) xs = true
    · by_cases h3 : i < 0
      · rw [if_neg (by simp [h1]), if_neg (by simp [h2]), if_pos h3, no, if_neg (by omega)]
      · by_cases h4 : i ≥ needV n
        · rw [if_neg (by simp [h1]), if_neg (by simp [h2]), if_neg h3, decide_eq_true h4, no, if_neg (by omega)]
        · rw [if_neg (by simp [h1]), if_neg (by simp [h2]), if_neg h3, decide_eq_false h4, if_pos ⟨h1, h2, by omega, by omega⟩]
          unfold s21_j1 s21_j1F
          rw [if_neg (by decide), rep240, Option.bind_some]
          exact put_loop i hx fun x hx => by
            have a := Lst.lt h2 (by omega) x hx
            have b := mayP_le h1
            omega
    · rw [if_neg (by simp [h1]), if_pos h2, no, if_neg (fun h => h2 h.2.1)]
  · rw [if_pos h1, no, if_neg (fun h => h1 h.1)]
theorem put2_ok (n : Int) {xs : List Int} (hx : xs.length ≤ 1000000) (i : Int) : s24 n xs i = some (putV n xs i) := by
  unfold s24 s24F putV
  rw [may2_ok, lst2_ok n hx, need2_ok]
  simp only [Option.bind_some]
  have no : s24_j1 xs i true = some (((), 1), []) := rfl
  by_cases h1 : mayP n = true
  · by_cases h2 : Lst n (-1) xs = true
    · by_cases h3 : i < 0
      · rw [if_neg (by simp [h1]), if_neg (by simp [h2]), if_pos h3, no, if_neg (by omega)]
      · by_cases h4 : i ≥ needV n
        · rw [if_neg (by simp [h1]), if_neg (by simp [h2]), if_neg h3, decide_eq_true h4, no, if_neg (by omega)]
        · rw [if_neg (by simp [h1]), if_neg (by simp [h2]), if_neg h3, decide_eq_false h4, if_pos ⟨h1, h2, by omega, by omega⟩]
          unfold s24_j1 s24_j1F
          rw [if_neg (by decide), rep240, Option.bind_some]
          exact put2_loop i hx fun x hx => by
            have a := Lst.lt h2 (by omega) x hx
            have b := mayP_le h1
            omega
    · rw [if_neg (by simp [h1]), if_pos h2, no, if_neg (fun h => h2 h.2.1)]
  · rw [if_pos h1, no, if_neg (fun h => h1 h.1)]
end Go.Proofs.YtofhmhbffdoiaaaDoor
