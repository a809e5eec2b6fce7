/- The plain law of HeadSector. -/
import Derived.Test.YtclnddebhjjpfaaDoorHL
set_option linter.unusedVariables false
set_option maxRecDepth 20000
namespace Go.Proofs.YtclnddebhjjpfaaDoor
open Go Go.SX
theorem page1_ok {e : Int} (h : 0 ≤ e ∧ e < 18446744073709551616) : g25 e = some (e % 2) := by
  obtain ⟨n, rfl⟩ : ∃ n : Nat, e = (n : Int) := ⟨e.toNat, by omega⟩
  unfold g25
  rw [show (1 : Int) = ((1 : Nat) : Int) from rfl, andI_nat rfl (show n < 2 ^ IntKind.bits .u64 from (by show n < 18446744073709551616; omega)) (by decide), Nat.and_one_is_mod, i64_in _ (by omega)]
  rfl
/-- The frame of a head's page. -/
def hf (h : T_api_Head) : T_api_Frame := ⟨1, h.Epoch % 2, h.Epoch, padH h⟩
theorem hf_frm {h : T_api_Head} (k : HeadOk h) (he : 0 ≤ h.Epoch ∧ h.Epoch < 18446744073709551616) (hu : B8 h.User) : Frm (hf h) := by
  refine ⟨by show (1 : Int) ≤ 1 ∧ (1 : Int) ≤ 4; decide, by show 0 ≤ h.Epoch % 2 ∧ h.Epoch % 2 < 2048; omega, he, ?_, padH8 k hu⟩
  show (padH h).length ≤ 240
  rw [padH_len k]; omega
theorem hf_pad {h : T_api_Head} (k : HeadOk h) : ({ hf h with Data := pad (hf h) } : T_api_Frame) = hf h := by
  have : pad (hf h) = padH h := by
    unfold pad
    show padH h ++ List.replicate (240 - (padH h).length) 0 = padH h
    rw [padH_len k]; simp
  rw [this]; rfl
theorem layS_ok {h : T_api_Head} (hm : h.Maps.length < 4000000000000000000) (he : 0 ≤ h.Epoch ∧ h.Epoch < 18446744073709551616) (hu : B8 h.User) : g19 h = some (if chkH h = 0 then (pg (hf h), 0) else ([], chkH h)) := by
  unfold g19
  rw [headPut_ok hm, Option.bind_some]
  by_cases c : chkH h = 0
  · have k := chkH0.1 c
    rw [if_pos c, if_neg (by simp), page1_ok he, Option.bind_some, if_pos c]
    have := put_ok (f := hf h) he (padH8 k hu)
    unfold hf at this
    have c' : chk (⟨1, h.Epoch % 2, h.Epoch, padH h⟩ : T_api_Frame) = 0 := (hf_frm k he hu).chk0
    rw [if_pos c'] at this
    rw [this]
    rfl
  · rw [if_neg c, if_pos (by simpa using c), if_neg c]
def Z192 : List Int := List.replicate 192 0
/-- Behind the first sector are noughts. -/
theorem pg_tail {h : T_api_Head} (k : HeadOk h) : (pg (hf h)).drop 64 = Z192 := by
  have e : pg (hf h) = (be 4 (crcOf (body (hf h))) ++ (hd (hf h) ++ preH h)) ++ List.replicate (240 - (preH h).length) 0 := by
    unfold pg
    have : body (hf h) = hd (hf h) ++ (preH h ++ List.replicate (240 - (preH h).length) 0) := by
      show hd (hf h) ++ pad (hf h) = _
      have p : pad (hf h) = padH h := by
        unfold pad
        show padH h ++ List.replicate (240 - (padH h).length) 0 = padH h
        rw [padH_len k]; simp
      rw [p]; rfl
    rw [this]
    simp only [List.append_assoc]
  have hl : (be 4 (crcOf (body (hf h))) ++ (hd (hf h) ++ preH h)).length = 16 + (preH h).length := by
    rw [List.length_append, List.length_append, be_len, hd_len]; omega
  have hp : (preH h).length ≤ 40 := by
    rw [preH_len]
    have := k.few
    have := k.2.2.2.2
    omega
  rw [e, List.drop_append, List.drop_of_length_le (by rw [hl]; omega), List.nil_append, hl, List.drop_replicate]
  unfold Z192
  congr 1
  omega
theorem trim_left (p : Int) : g45 [] p = some [] := by
  obtain ⟨f, hF⟩ : ∃ f, FUEL = f + 1 := ⟨FUEL - 1, by unfold FUEL; decide⟩
  unfold g45
  rw [hF]
  rfl
theorem trim_right : ∀ (n fuel : Nat), n ≤ 1000 → n < fuel → g46_l1 0 fuel (List.replicate n 0) = some [] := by
  intro n
  induction n with
  | zero =>
    intro fuel _ hf
    obtain ⟨f, rfl⟩ : ∃ f, fuel = f + 1 := ⟨fuel - 1, by omega⟩
    rfl
  | succ n ih =>
    intro fuel hn hf
    obtain ⟨f, rfl⟩ : ∃ f, fuel = f + 1 := ⟨fuel - 1, by omega⟩
    show g46_l1B 0 (g46_l1 0 f) (List.replicate (n + 1) 0) = _
    unfold g46_l1B
    rw [List.length_replicate, if_pos (by omega), i64_in _ (by omega), show (((n + 1 : Nat) : Int) - 1) = (n : Int) by omega, getI_nat]
    have e : (List.replicate (n + 1) (0 : Int))[n]? = some 0 := by rw [List.getElem?_replicate, if_pos (by omega)]
    rw [e, Option.bind_some, if_pos rfl, cutI_to (by rw [List.length_replicate]; omega), Option.bind_some]
    have e2 : (List.replicate (n + 1) (0 : Int)).take n = List.replicate n 0 := by rw [List.take_replicate]; congr 1; omega
    rw [e2]
    exact ih f (by omega) (by omega)
theorem copy_sec {xs Y : List Int} (hx : xs.length = 256) (hy : Y.length = 256) {l : Nat} (hl : l + 64 ≤ 256) : copyI xs (l : Int) ((l + 64 : Nat) : Int) (Y.drop l) = xs.take l ++ ((Y.drop l).take 64 ++ xs.drop (l + 64)) := by
  unfold copyI
  have e1 : (((l + 64 : Nat) : Int) - (l : Int)).toNat = 64 := by omega
  have e2 : min 64 (Y.drop l).length = 64 := by rw [List.length_drop, hy]; omega
  rw [Int.toNat_natCast, e1, e2, List.append_assoc]
theorem copy_same {xs Y : List Int} (hx : xs.length = 256) (hy : Y.length = 256) {l : Nat} (h64 : 64 ≤ l) (hl : l + 64 ≤ 256) (ht : xs.drop 64 = Y.drop 64) : copyI xs (l : Int) ((l + 64 : Nat) : Int) (Y.drop l) = xs := by
  rw [copy_sec hx hy hl]
  have e : Y.drop l = xs.drop l := by
    have := congrArg (List.drop (l - 64)) ht
    rw [List.drop_drop, List.drop_drop, show 64 + (l - 64) = l by omega] at this
    exact this.symm
  rw [e, ← List.drop_drop, List.take_append_drop, List.take_append_drop]
section
variable {X Y : List Int} (hX : X.length = 256) (hY : Y.length = 256) (hX8 : B8 X) (hY8 : B8 Y) (hT : X.drop 64 = Y.drop 64) (p e f : Int)
include hX hY hX8 hY8 hT
theorem sec_end {M : List Int} (hM : M = if andI .u8 p 1 = 1 then Y else X) (rec : Int → List Int → Option Bool) : g8_l4B p (X, e) (Y, f) rec 4 M = some true := by
  have _ := hX
  have _ := hY
  have _ := hT
  unfold g8_l4B
  rw [if_neg (by decide)]
  by_cases c : andI .u8 p 1 = 1
  · rw [if_pos c] at hM ⊢
    rw [hM, equal_ok hY8 hY8, Option.bind_some, decide_eq_true rfl]
  · rw [if_neg c] at hM ⊢
    rw [hM, equal_ok hX8 hX8, Option.bind_some, decide_eq_true rfl]
theorem sec_loop {M : List Int} (hM : M = if andI .u8 p 1 = 1 then Y else X) : ∀ (fuel i : Nat), 1 ≤ i → i ≤ 4 → 4 - i < fuel → g8_l4 p (X, e) (Y, f) fuel (i : Int) M = some true := by
  have hl : M.length = 256 := by rw [hM]; split <;> assumption
  have ht : M.drop 64 = Y.drop 64 := by rw [hM]; split; rfl; exact hT
  intro fuel
  induction fuel with
  | zero => intro i _ _ h; omega
  | succ n ih =>
    intro i h1 h4 hf
    by_cases hi : i = 4
    · subst hi
      exact sec_end hX hY hX8 hY8 hT p e f hM _
    · show g8_l4B p (X, e) (Y, f) (g8_l4 p (X, e) (Y, f) n) (i : Int) M = _
      unfold g8_l4B
      have w1 : IntKind.i64.wrap ((i : Int) * 64) = ((64 * i : Nat) : Int) := by rw [i64_in _ (by omega)]; omega
      have w2 : IntKind.i64.wrap ((i : Int) + 1) = ((i + 1 : Nat) : Int) := by rw [i64_in _ (by omega)]; omega
      have w3 : IntKind.i64.wrap (((i + 1 : Nat) : Int) * 64) = ((64 * i + 64 : Nat) : Int) := by rw [i64_in _ (by omega)]; omega
      have next := ih (i + 1) (by omega) (by omega) (by omega)
      rw [if_pos (by omega), u64_in _ ⟨by omega, by omega⟩, if_pos (by omega), w2, w1, w3]
      by_cases c : andI .u8 (shrI .u8 p (i : Int)) 1 = 1
      · rw [if_pos c, if_pos ⟨by omega, by omega, by rw [hl]; omega⟩, cutI_from (by rw [hY]; omega), Option.bind_some, Option.bind_some, copy_same hl hY (by omega) (by omega) ht]
        exact next
      · rw [if_neg c]
        exact next
theorem sec_all (hp : 0 ≤ p ∧ p ≤ 255) : g8_l4 p (X, e) (Y, f) FUEL 0 X = some true := by
  obtain ⟨n, hF⟩ : ∃ n, FUEL = n + 6 := ⟨FUEL - 6, by unfold FUEL; decide⟩
  rw [hF]
  show g8_l4B p (X, e) (Y, f) (g8_l4 p (X, e) (Y, f) (n + 5)) 0 X = _
  unfold g8_l4B
  have w0 : IntKind.u64.wrap 0 = 0 := by decide
  have w1 : IntKind.i64.wrap (0 * 64) = ((0 : Nat) : Int) := by decide
  have w2 : IntKind.i64.wrap (0 + 1) = ((1 : Nat) : Int) := by decide
  have w3 : IntKind.i64.wrap (((1 : Nat) : Int) * 64) = ((0 + 64 : Nat) : Int) := by decide
  have hs : shrI .u8 p 0 = p := by
    obtain ⟨q, rfl⟩ : ∃ q : Nat, p = q := ⟨p.toNat, by omega⟩
    have := shrI_nat (k := .u8) (a := q) (s := 0) (by decide)
    rw [show ((0 : Nat) : Int) = 0 from rfl] at this
    rw [this]; simp
  rw [if_pos (by decide), w0, if_pos (by decide), hs, w2, w1, w3]
  by_cases c : andI .u8 p 1 = 1
  · rw [if_pos c, if_pos ⟨by decide, by decide, by rw [hX]; decide⟩, cutI_from (by omega), Option.bind_some, Option.bind_some, copy_sec hX hY (by omega)]
    have : X.take 0 ++ ((Y.drop 0).take 64 ++ X.drop (0 + 64)) = Y := by
      rw [List.take_zero, List.nil_append, List.drop_zero, Nat.zero_add, hT, List.take_append_drop]
    rw [this]
    exact sec_loop hX hY hX8 hY8 hT p e f (by rw [if_pos c]) (n + 5) 1 (by omega) (by omega) (by omega)
  · rw [if_neg c]
    exact sec_loop hX hY hX8 hY8 hT p e f (by rw [if_neg c]) (n + 5) 1 (by omega) (by omega) (by omega)
end
theorem Pure.HeadSector (p0 p1 : T_api_Head) (p2 : Int) (h0 : okH p0) (h1 : okH p1) (h2 : (Lit.int .u8 p2).wf = true) : g8 p0 p1 p2 = some true := by
  have jt : g8_j1 p0 p1 p2 true = some true := by
    unfold g8_j1
    rw [if_pos rfl, live_ok]; rfl
  obtain ⟨c, e, hc⟩ := short_two p0 p1
  unfold g8
  rw [live_ok, Option.bind_some, if_neg (by simp), e, Option.bind_some]
  cases c with
  | false => exact jt
  | true =>
    rw [decide_eq_false (by simp)]
    obtain ⟨m0, m1⟩ := hc rfl
    have he0 := wf_u64 h0.1
    have he1 := wf_u64 h1.1
    have hu0 : B8 p0.User := B8.of_wf h0.2.2.2.2
    have hu1 : B8 p1.User := B8.of_wf h1.2.2.2.2
    have hp := wf_u8 h2
    have jn : ∀ x y, g8_j2 p2 x y true = some true := fun x y => by
      unfold g8_j2
      rw [if_pos rfl]
    unfold g8_j1
    rw [if_neg (by decide), layS_ok (by omega) he0 hu0, layS_ok (by omega) he1 hu1, Option.bind_some, Option.bind_some]
    by_cases c0 : chkH p0 = 0
    · rw [if_pos c0, if_neg (by simp)]
      by_cases c1 : chkH p1 = 0
      · rw [if_pos c1, decide_eq_false (by simp)]
        have k0 := chkH0.1 c0
        have k1 := chkH0.1 c1
        have F0 := hf_frm k0 he0 hu0
        have F1 := hf_frm k1 he1 hu1
        have L0 := pg_len F0.len
        have L1 := pg_len F1.len
        have T0 := pg_tail k0
        have T1 := pg_tail k1
        have all := sec_all L0 L1 F0.pg8 F1.pg8 (T0.trans T1.symm) p2 0 0 (by omega)
        have j3 : g8_j3 p2 (pg (hf p0), 0) (pg (hf p1), 0) false = some true := by
          unfold g8_j3
          generalize g8_l4 p2 (pg (hf p0), 0) (pg (hf p1), 0) FUEL = Q at all ⊢
          have cl : g13 (pg (hf p0)) = some (pg (hf p0)) := by
            unfold g13
            rw [appI_ok (by rw [L0]; decide)]
            rfl
          rw [if_neg (by decide), cl, Option.bind_some, if_pos (by rw [L0]; decide)]
          exact all
        unfold g8_j2
        have tr : g46 Z192 0 = some [] := trim_right 192 FUEL (by decide) (by unfold FUEL; decide)
        have cu : cutI (pg (hf p0)) 64 ((pg (hf p0)).length : Int) = some Z192 := by
          have := cutI_from (xs := pg (hf p0)) (l := 64) (by rw [L0]; decide)
          rw [T0] at this
          exact this
        rw [if_neg (by decide), if_neg (by simp only; rw [L0]; decide), if_neg (by simp only; rw [L1]; decide)]
        simp only
        rw [cu, Option.bind_some, if_neg (by decide), tr, Option.bind_some, trim_left, Option.bind_some, decide_eq_false (by decide)]
        exact j3
      · rw [if_neg c1, decide_eq_true (by simpa using c1)]
        exact jn _ _
    · rw [if_neg c0, if_pos (by simpa using c0)]
      exact jn _ _
end Go.Proofs.YtclnddebhjjpfaaDoor
