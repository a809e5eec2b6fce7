/- Plain laws of the references of crc and frame. -/
import Derived.Test.YtclnddebhjjpfaaDoorPB
set_option linter.unusedVariables false
set_option maxRecDepth 20000
namespace Go.Proofs.YtclnddebhjjpfaaDoor
open Go Go.SX
theorem goes_loop : ∀ (k fuel r : Nat), k ≤ 8 → k < fuel → r < 4294967296 → g87_l1 fuel (r : Int) ((8 - k : Nat) : Int) = some ((csteps k r : Nat) : Int) := by
  intro k
  induction k with
  | zero =>
    intro fuel r hk hf hr
    obtain ⟨n, rfl⟩ : ∃ n, fuel = n + 1 := ⟨fuel - 1, by omega⟩
    show g87_l1B (g87_l1 n) _ _ = _
    unfold g87_l1B
    rw [if_neg (by omega)]
    rfl
  | succ k ih =>
    intro fuel r hk hf hr
    obtain ⟨n, rfl⟩ : ∃ n, fuel = n + 1 := ⟨fuel - 1, by omega⟩
    show g87_l1B (g87_l1 n) _ _ = _
    unfold g87_l1B
    have e1 : andI .u32 (r : Int) 1 = ((r % 2 : Nat) : Int) := by
      have := andI_nat (k := .u32) rfl (a := r) (b := 1) (by exact hr) (by decide)
      rw [show (1 : Int) = ((1 : Nat) : Int) from rfl, this, show r &&& 1 = r % 2 ^ 1 from Nat.and_two_pow_sub_one_eq_mod r 1]
    have e2 : shrI .u32 (r : Int) 1 = ((r / 2 : Nat) : Int) := by
      have := shrI_nat (k := .u32) (a := r) (s := 1) (by decide)
      rwa [show (2 : Nat) ^ 1 = 2 from rfl] at this
    have e3 : IntKind.i64.wrap (((8 - (k + 1) : Nat) : Int) + 1) = ((8 - k : Nat) : Int) := by rw [i64_in _ (by omega)]; omega
    rw [if_pos (by omega), e1, e2, e3]
    by_cases h : r % 2 = 1
    · have e4 : xorI .u32 ((r / 2 : Nat) : Int) 2197175160 = ((r / 2 ^^^ 2197175160 : Nat) : Int) := xorI_nat (k := .u32) rfl (a := r / 2) (b := 2197175160) (by show r / 2 < 4294967296; omega) (by decide)
      rw [if_pos (by omega), e4, ih n _ (by omega) (by omega) (Nat.xor_lt_two_pow (n := 32) (by omega) (by decide)), csteps]
      unfold cstep
      rw [if_pos h]
    · rw [if_neg (by omega), ih n _ (by omega) (by omega) (by omega), csteps]
      unfold cstep
      rw [if_neg h]
theorem goes_ok {r : Nat} {c : Int} (hr : r < 4294967296) (hc : 0 ≤ c ∧ c ≤ 255) : g87 (r : Int) c = some ((cbyte r c : Nat) : Int) := by
  unfold g87
  have e0 : c = ((c.toNat : Nat) : Int) := by omega
  have e1 : xorI .u32 (r : Int) (IntKind.u32.wrap c) = ((r ^^^ c.toNat : Nat) : Int) := by
    rw [u32_in _ (by omega), e0, xorI_nat (k := .u32) rfl (by exact hr) (by show c.toNat < 4294967296; omega), Int.toNat_natCast]
  rw [e1]
  exact goes_loop 8 FUEL _ (by omega) (by unfold FUEL; omega) (Nat.xor_lt_two_pow (n := 32) hr (by omega))
theorem rone_ok {l : List Int} (hl : B8 l) (hlen : l.length ≤ 140737488355328) : g76 l = some ((crcOf l : Nat) : Int) := by
  unfold g76 g82
  have e0 : cplI .u32 0 = ((4294967295 : Nat) : Int) := by kernel_rfl
  obtain ⟨n, hn⟩ : ∃ n, FUEL = n + 2 := ⟨FUEL - 2, by unfold FUEL; decide⟩
  rw [e0, show g82_l1 ([l] : List (List Int)) FUEL = g82_l1 ([l] : List (List Int)) (n + 1 + 1) by rw [hn]]
  show (g82_l1B [l] (g82_l1 [l] (n + 1)) _ 0).bind _ = _
  unfold g82_l1B
  rw [if_pos (by simp)]
  have hget : getI [l] 0 = some l := by rw [show (0 : Int) = ((0 : Nat) : Int) from rfl, getI_nat]; rfl
  have w := walk0 (xs := l) (s := ((4294967295 : Nat) : Int)) (fun (s : Int) (c : Int) => ((cbyte s.toNat c : Nat) : Int)) (fun s => ∃ n : Nat, s = n ∧ n < 4294967296) (fun s => g82_l1 [l] (n + 1) s 1)
    (fun f s i => g82_l2 [l] 0 (g82_l1 [l] (n + 1)) f s i) (by unfold FUEL; omega) ⟨4294967295, rfl, by decide⟩ ?_ ?_
  · rw [w]
    have hf : ∀ (l : List Int) (r : Nat), List.foldl (fun (s : Int) (c : Int) => ((cbyte s.toNat c : Nat) : Int)) (r : Int) l = ((cby r l : Nat) : Int) := by
      intro l
      induction l with
      | nil => intro r; rfl
      | cons a l ih => intro r; rw [List.foldl_cons, Int.toNat_natCast, ih]; rfl
    rw [hf]
    show (g82_l1B [l] (g82_l1 [l] n) _ 1).bind _ = _
    unfold g82_l1B
    rw [if_neg (by simp), cplI_nat (k := .u32) rfl (by exact cby_lt hl (by decide)), Option.bind_some]
    rfl
  · rintro f s i x hx ⟨m, rfl, hm⟩
    have hb := hl.get hx
    have hi := (List.getElem?_eq_some_iff.1 hx).1
    refine ⟨⟨_, rfl, by rw [Int.toNat_natCast]; exact cbyte_lt hm (by omega)⟩, ?_⟩
    show g82_l2B [l] 0 (g82_l1 [l] (n + 1)) (g82_l2 [l] 0 (g82_l1 [l] (n + 1)) f) (m : Int) (i : Int) = _
    unfold g82_l2B
    rw [hget, Option.bind_some, if_pos (by omega), Option.bind_some, getI_nat, hx, Option.bind_some, goes_ok hm hb, Option.bind_some, i64_in _ (by omega), Int.toNat_natCast]
    rfl
  · rintro f s ⟨m, rfl, hm⟩
    show g82_l2B [l] 0 (g82_l1 [l] (n + 1)) (g82_l2 [l] 0 (g82_l1 [l] (n + 1)) f) (m : Int) (l.length : Int) = _
    unfold g82_l2B
    rw [hget, Option.bind_some, if_neg (by omega), i64_in _ (by omega)]
    rfl
theorem be4_of {s : Nat} (h : s < 4294967296) : [IntKind.u8.wrap (shrI .u32 (s : Int) 24), IntKind.u8.wrap (shrI .u32 (s : Int) 16), IntKind.u8.wrap (shrI .u32 (s : Int) 8), IntKind.u8.wrap (s : Int)] = be 4 s := by
  have e24 := shrI_nat (k := .u32) (a := s) (s := 24) (by decide)
  have e16 := shrI_nat (k := .u32) (a := s) (s := 16) (by decide)
  have e8 := shrI_nat (k := .u32) (a := s) (s := 8) (by decide)
  rw [show ((24 : Nat) : Int) = 24 from rfl] at e24
  rw [show ((16 : Nat) : Int) = 16 from rfl] at e16
  rw [show ((8 : Nat) : Int) = 8 from rfl] at e8
  rw [e24, e16, e8, wrap_nat rfl, wrap_nat rfl, wrap_nat rfl, wrap_nat rfl]
  simp only [be, List.nil_append, List.cons_append, Nat.div_div_eq_div_mul, List.cons.injEq, and_true]
  refine ⟨?_, ?_, ?_, ?_⟩ <;> rfl
theorem seal_ok {l : List Int} (hl : B8 l) (hlen : l.length ≤ 1000000) : g63 l = some (be 4 (crcOf l) ++ l) := by
  unfold g63
  rw [rone_ok hl (by omega), Option.bind_some, be4_of (crcOf_lt hl), appI_ok (by rw [be_len]; omega)]
  rfl
theorem zsum : crcOf (List.replicate 252 0) ≠ 0 := by
  have : crcOf (List.replicate 252 0) = 0 → False := by
    have h : (crcOf (List.replicate 252 0) == 0) = false := by kernel_rfl
    intro e
    rw [e] at h
    cases h
  exact this
theorem open_ok {b : List Int} (hb : B8 b) (hl : b.length = 256) : g71 b = some (if ofbe (b.take 4) = crcOf (b.drop 4) then (b.drop 4, true) else ([], false)) := by
  unfold g71
  have d8 := hb.drop 4
  have dl : (b.drop 4).length = 252 := by rw [List.length_drop, hl]
  have hcut : cutI b 4 (b.length : Int) = some (b.drop 4) := by rw [show (4 : Int) = ((4 : Nat) : Int) from rfl, cutI_from (by omega)]
  rw [if_neg (by omega), hcut, Option.bind_some, seal_ok d8 (by omega), Option.bind_some, Option.bind_some, appI_ok (by rw [dl]; decide), Option.bind_some, List.nil_append]
  have h4 := be_ofbe (hb.take 4)
  rw [show (b.take 4).length = 4 by rw [List.length_take, hl]; rfl] at h4
  have iff : ((strOfNums (be 4 (crcOf (b.drop 4)) ++ b.drop 4)).toList ≠ (strOfNums b).toList) ↔ ¬ ofbe (b.take 4) = crcOf (b.drop 4) := by
    refine not_congr ?_
    rw [str_eq ((be_B8 _ _).append d8) hb]
    constructor
    · intro e
      have := congrArg (fun z => ofbe (z.take 4)) e
      simp only [take_be, ofbe_be] at this
      rw [Nat.mod_eq_of_lt (by exact crcOf_lt d8)] at this
      exact this.symm
    · intro e
      rw [← e, h4, List.take_append_drop]
  by_cases c : ofbe (b.take 4) = crcOf (b.drop 4)
  · rw [if_neg (fun h => (iff.1 h) c), if_pos c]
  · rw [if_pos (iff.2 c), if_neg c]
theorem rcheck_ok (f : T_api_Frame) : g62 f = some (chk f) := by
  have j2 : ∀ c : Bool, g62_j2 f c = some (if c = true then 41 else if (f.Data.length : Int) > 240 then 3 else 0) := by
    intro c; unfold g62_j2; split <;> simp [apply_ite]
  unfold g62 g62_j1 chk
  rw [j2, j2]
  by_cases h1 : f.Kind < 1 <;> by_cases h2 : f.Kind > 4 <;> by_cases h3 : f.Page < 0 <;> by_cases h4 : f.Page ≥ 2048 <;> simp [h1, h2, h3, h4] <;> first | omega | skip
  all_goals (try (split <;> split <;> first | rfl | omega))
theorem epoch_loop {f : T_api_Frame} {e : Nat} (he : f.Epoch = (e : Int)) (hlt : e < 18446744073709551616) : ∀ (k fuel : Nat) (b : List Int), k ≤ 8 → k < fuel → b.length + k ≤ 1000 →
    g41_l1 f fuel b ((8 - k : Nat) : Int) = (appI (b ++ be k e) f.Data 1).bind fun x => g41_l2 FUEL x := by
  intro k
  induction k with
  | zero =>
    intro fuel b hk hf hb
    obtain ⟨n, rfl⟩ : ∃ n, fuel = n + 1 := ⟨fuel - 1, by omega⟩
    show g41_l1B f (g41_l1 f n) b _ = _
    unfold g41_l1B
    rw [if_neg (by omega), be, List.append_nil]
  | succ k ih =>
    intro fuel b hk hf hb
    obtain ⟨n, rfl⟩ : ∃ n, fuel = n + 1 := ⟨fuel - 1, by omega⟩
    show g41_l1B f (g41_l1 f n) b _ = _
    unfold g41_l1B
    have e1 : IntKind.u64.wrap (IntKind.i64.wrap (56 - IntKind.i64.wrap (8 * ((8 - (k + 1) : Nat) : Int)))) = ((8 * k : Nat) : Int) := by
      rw [i64_in (8 * ((8 - (k + 1) : Nat) : Int)) (by omega), i64_in _ (by omega), u64_in _ (by omega)]; omega
    have e3 : IntKind.i64.wrap (((8 - (k + 1) : Nat) : Int) + 1) = ((8 - k : Nat) : Int) := by rw [i64_in _ (by omega)]; omega
    have e5 : IntKind.u8.wrap (shrI .u64 f.Epoch ((8 * k : Nat) : Int)) = ((e / 256 ^ k % 256 : Nat) : Int) := by
      rw [he, shrI_nat (show 8 * k ≤ IntKind.u64.bits by show 8 * k ≤ 64; omega), Nat.pow_mul, wrap_nat rfl]
      rfl
    rw [if_pos (by omega), e1, Option.bind_some, if_pos (Int.natCast_nonneg _), e5, appI_ok (by simp; omega), Option.bind_some, e3, ih n _ (by omega) (by omega) (by simp; omega), be_high, List.append_assoc]
    rfl
theorem fill_loop : ∀ (k fuel : Nat) (x : List Int), x.length + k = 252 → k < fuel → B8 x → g41_l2 fuel x = some (be 4 (crcOf (x ++ List.replicate k 0)) ++ (x ++ List.replicate k 0), 0) := by
  intro k
  induction k with
  | zero =>
    intro fuel x hk hf hb
    obtain ⟨n, rfl⟩ : ∃ n, fuel = n + 1 := ⟨fuel - 1, by omega⟩
    show g41_l2B (g41_l2 n) x = _
    unfold g41_l2B
    rw [if_neg (by omega), seal_ok hb (by omega), List.replicate_zero, List.append_nil]
    rfl
  | succ k ih =>
    intro fuel x hk hf hb
    obtain ⟨n, rfl⟩ : ∃ n, fuel = n + 1 := ⟨fuel - 1, by omega⟩
    show g41_l2B (g41_l2 n) x = _
    unfold g41_l2B
    rw [if_pos (by omega), appI_ok (by simp; omega), Option.bind_some, ih n (x ++ [0]) (by simp; omega) (by omega) (hb.append (B8.rep 1)), List.append_assoc]
    rfl
theorem rput_ok {f : T_api_Frame} (he : 0 ≤ f.Epoch ∧ f.Epoch < 18446744073709551616) (hd8 : B8 f.Data) : g41 f = some (if chk f = 0 then (pg f, 0) else ([], chk f)) := by
  unfold g41
  rw [rcheck_ok, Option.bind_some]
  by_cases h : chk f = 0
  · have F := frm_of h he hd8
    have hp := F.page
    have hk := F.kind
    have hlen := F.len
    rw [if_neg (by simpa using h), if_pos h]
    have ek : IntKind.u8.wrap f.Kind = f.Kind := u8_in _ (by omega)
    have e1 : IntKind.u8.wrap (IntKind.i64.wrap (Int.tdiv f.Page 256)) = ((f.Page.toNat / 256 % 256 : Nat) : Int) := by
      rw [Int.tdiv_eq_ediv_of_nonneg hp.1, i64_in _ (by omega), u8_in _ (by omega)]; omega
    have e2 : IntKind.u8.wrap (Int.tmod f.Page 256) = ((f.Page.toNat % 256 : Nat) : Int) := by
      rw [Int.tmod_eq_emod_of_nonneg hp.1, u8_in _ (by omega)]; omega
    rw [ek, e1, e2]
    have := epoch_loop (f := f) (e := f.Epoch.toNat) (by omega) (by omega) 8 FUEL [f.Kind, 0, ((f.Page.toNat / 256 % 256 : Nat) : Int), ((f.Page.toNat % 256 : Nat) : Int)] (by omega) (by unfold FUEL; omega) (by simp)
    rw [show ((8 - 8 : Nat) : Int) = 0 from rfl] at this
    rw [this]
    have e3 : [f.Kind, 0, ((f.Page.toNat / 256 % 256 : Nat) : Int), ((f.Page.toNat % 256 : Nat) : Int)] ++ be 8 f.Epoch.toNat = hd f := by
      unfold hd
      simp [be]
    have hh8 : B8 (hd f ++ f.Data) := by
      refine B8.append ?_ hd8
      exact B8.cons (by omega) (B8.cons (by omega) ((be_B8 _ _).append (be_B8 _ _)))
    rw [e3, appI_ok (by rw [hd_len]; omega), Option.bind_some, fill_loop (240 - f.Data.length) FUEL _ (by rw [List.length_append, hd_len]; omega) (by unfold FUEL; omega) hh8, List.append_assoc]
    rfl
  · rw [if_pos h, if_neg h]
end Go.Proofs.YtclnddebhjjpfaaDoor
