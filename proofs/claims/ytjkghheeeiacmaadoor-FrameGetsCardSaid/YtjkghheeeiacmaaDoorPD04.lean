/- Plain laws of layer 4: noughts at the end; Same; FrameBack. -/
import Derived.Test.YtjkghheeeiacmaaDoorPC04
set_option linter.unusedVariables false
set_option maxRecDepth 20000
namespace Go.Proofs.YtjkghheeeiacmaaDoor
open Go Go.SX
def trimZ (l : List Int) : List Int := (l.reverse.dropWhile (fun x => decide (x = 0))).reverse
theorem trimZ_nil : trimZ [] = [] := rfl
theorem trimZ_zero (l : List Int) : trimZ (l ++ [0]) = trimZ l := by simp [trimZ]
theorem trimZ_keep (l : List Int) {x : Int} (h : x ≠ 0) : trimZ (l ++ [x]) = l ++ [x] := by simp [trimZ, h]
theorem trimZ_rep (l : List Int) : ∀ n, trimZ (l ++ List.replicate n 0) = trimZ l
  | 0 => by simp
  | n + 1 => by rw [List.replicate_succ', ← List.append_assoc, trimZ_zero, trimZ_rep l n]
theorem trimZ_mem {l : List Int} {x : Int} (h : x ∈ trimZ l) : x ∈ l := by
  unfold trimZ at h
  rw [List.mem_reverse] at h
  have := (List.dropWhile_sublist (fun x : Int => decide (x = 0)) (l := l.reverse)).subset h
  exact List.mem_reverse.1 this
theorem trimZ8 {l : List Int} (h : B8 l) : B8 (trimZ l) := fun x hx => h x (trimZ_mem hx)
theorem trim_loop : ∀ (fuel : Nat) (l : List Int), l.length < 9223372036854775807 → l.length < fuel → g54_l1 0 fuel l = some (trimZ l) := by
  intro fuel
  induction fuel with
  | zero => intro l _ h; omega
  | succ n ih =>
    intro l hb hf
    show g54_l1B 0 (g54_l1 0 n) l = _
    unfold g54_l1B
    by_cases h : l = []
    · subst h
      rw [if_neg (by simp)]
      rfl
    · have e := List.dropLast_concat_getLast h
      generalize l.dropLast = k at e
      generalize l.getLast h = x at e
      subst e
      have hlen : (k ++ [x]).length = k.length + 1 := by simp
      have e1 : IntKind.i64.wrap (((k ++ [x]).length : Int) - 1) = ((k.length : Nat) : Int) := by rw [hlen, i64_in _ (by omega)]; omega
      rw [if_pos (by rw [hlen]; omega), e1, getI_nat, get_mid rfl, Option.bind_some]
      by_cases hx : x = 0
      · subst hx
        rw [if_pos rfl, cutI_to (by omega), Option.bind_some, List.take_left, ih k (by omega) (by omega), trimZ_zero]
      · rw [if_neg hx, trimZ_keep k hx]
theorem bare_ok {l : List Int} (h : l.length < 9223372036854775807) : g31 l = some (trimZ l) := by
  unfold g31
  by_cases h0 : (l.length : Int) = 0
  · rw [if_pos h0]
    have : l = [] := List.eq_nil_of_length_eq_zero (by omega)
    subst this
    rfl
  · rw [if_neg h0]
    unfold g31_j1 g54
    rw [if_neg (by decide), trim_loop FUEL l h (by unfold FUEL; omega)]
    rfl
theorem equal_ok {k l : List Int} (h1 : B8 k) (h2 : B8 l) : g20 k l = some (decide (k = l)) := by
  unfold g20
  congr 1
  rw [decide_eq_decide]
  exact str_eq h1 h2
def sameF (a b : T_api_Frame) : Prop := a.Kind = b.Kind ∧ a.Page = b.Page ∧ a.Epoch = b.Epoch ∧ trimZ a.Data = trimZ b.Data
instance (a b : T_api_Frame) : Decidable (sameF a b) := by unfold sameF; infer_instance
theorem same_ok {a b : T_api_Frame} (h1 : B8 a.Data) (h2 : B8 b.Data) (l1 : a.Data.length < 9223372036854775807) (l2 : b.Data.length < 9223372036854775807) : g19 a b = some (decide (sameF a b)) := by
  unfold g19 sameF g19_j1
  rw [bare_ok l1, bare_ok l2]
  simp only [Option.bind_some]
  rw [equal_ok (trimZ8 h1) (trimZ8 h2)]
  simp only [Option.bind_some]
  by_cases c1 : a.Kind = b.Kind <;> by_cases c2 : a.Page = b.Page <;> by_cases c3 : a.Epoch = b.Epoch <;> simp [c1, c2, c3]
theorem pg_fr {b : List Int} (hb : B8 b) (hl : b.length = 256) (hs : ofbe (b.take 4) = crcOf (b.drop 4)) (h5 : b.getD 5 0 = 0) : pg (fr b) = b ∧ (fr b).Data.length = 240 := by
  have hd16 : (b.drop 16).length = 240 := by rw [List.length_drop, hl]
  have o2 := ofbe_lt ((hb.drop 6).take 2)
  have o8 := ofbe_lt ((hb.drop 8).take 8)
  have l2 : ((b.drop 6).take 2).length = 2 := by rw [List.length_take, List.length_drop, hl]; rfl
  have l8 : ((b.drop 8).take 8).length = 8 := by rw [List.length_take, List.length_drop, hl]; rfl
  have b2 := be_ofbe ((hb.drop 6).take 2)
  have b8 := be_ofbe ((hb.drop 8).take 8)
  rw [l2] at b2
  rw [l8] at b8
  have e4 : b[4]? = some (b.getD 4 0) := by rw [List.getD_eq_getElem?_getD, List.getElem?_eq_getElem (by omega)]; rfl
  have e5 : b[5]? = some 0 := by rw [← h5, List.getD_eq_getElem?_getD, List.getElem?_eq_getElem (by omega)]; rfl
  have d4 : b.drop 4 = b.getD 4 0 :: 0 :: b.drop 6 := by
    rw [List.drop_eq_getElem?_toList_append, e4, List.drop_eq_getElem?_toList_append, e5]; rfl
  have d6 : b.drop 6 = (b.drop 6).take 2 ++ ((b.drop 8).take 8 ++ b.drop 16) := by
    have h1 : b.drop 8 = (b.drop 8).take 8 ++ b.drop 16 := by rw [show b.drop 16 = (b.drop 8).drop 8 by rw [List.drop_drop], List.take_append_drop]
    rw [← h1, show b.drop 8 = (b.drop 6).drop 2 by rw [List.drop_drop], List.take_append_drop]
  have g4 := hb.get e4
  have t1 : (b.drop 4).take 1 = [b.getD 4 0] := by rw [d4]; rfl
  have hbody : body (fr b) = b.drop 4 := by
    unfold body hd pad fr
    simp only [Int.toNat_natCast]
    rw [hd16, b2, b8, t1, ofbe_one, d4]
    simp only [List.cons_append, List.append_assoc, Nat.sub_self, List.replicate_zero, List.append_nil]
    rw [← d6]
    congr 1
    omega
  refine ⟨?_, hd16⟩
  unfold pg
  rw [hbody, ← hs]
  have b4 := be_ofbe (hb.take 4)
  rw [show (b.take 4).length = 4 by rw [List.length_take, hl]; rfl] at b4
  rw [b4, List.take_append_drop]
theorem back_j2 {p1 : List Int} (h8 : B8 p1) (p2 : Int) : g6_j2 p1 p2 = some true := by
  unfold g6_j2
  by_cases hl : p1.length = 256
  · rw [get_ok h8 hl, Option.bind_some]
    unfold getS
    by_cases c1 : p1 = List.replicate 256 0 ∨ ofbe (p1.take 4) ≠ crcOf (p1.drop 4)
    · rw [if_pos c1, if_pos (show (40 : Int) ≠ 0 by decide), show T_api_Frame.mk 0 0 0 [] = E0 from rfl, alike_nil]; rfl
    · rw [if_neg c1]
      by_cases c2 : ¬ (1 ≤ (fr p1).Kind ∧ (fr p1).Kind ≤ 4) ∨ p1.getD 5 0 ≠ 0
      · rw [if_pos c2, if_pos (show (42 : Int) ≠ 0 by decide), show T_api_Frame.mk 0 0 0 [] = E0 from rfl, alike_nil]; rfl
      · rw [if_neg c2]
        by_cases c3 : (fr p1).Page ≠ p2 ∨ 2048 ≤ (fr p1).Page
        · rw [if_pos c3, if_pos (show (41 : Int) ≠ 0 by decide), show T_api_Frame.mk 0 0 0 [] = E0 from rfl, alike_nil]; rfl
        · rw [if_neg c3, if_neg (show ¬ (0 : Int) ≠ 0 by decide)]
          simp only
          have c1b : ofbe (p1.take 4) = crcOf (p1.drop 4) := Decidable.not_not.1 fun h => c1 (.inr h)
          have c2b : p1.getD 5 0 = 0 := Decidable.not_not.1 fun h => c2 (.inr h)
          have c2a : 1 ≤ (fr p1).Kind ∧ (fr p1).Kind ≤ 4 := Decidable.not_not.1 fun h => c2 (.inl h)
          obtain ⟨hp, hd⟩ := pg_fr h8 hl c1b c2b
          have o8 := ofbe_lt ((h8.drop 8).take 8)
          rw [show ((p1.drop 8).take 8).length = 8 by rw [List.length_take, List.length_drop, hl]; rfl] at o8
          have hchk : chk (fr p1) = 0 := by
            unfold chk
            have hpn : (0 : Int) ≤ (fr p1).Page := Int.natCast_nonneg _
            have hp2 : ¬ 2048 ≤ (fr p1).Page := fun h => c3 (.inr h)
            rw [if_neg (by omega), if_neg (by omega), if_neg (by omega)]
          rw [show 256 ^ 8 = 18446744073709551616 from by decide] at o8
          rw [put_ok (f := fr p1) ⟨Int.natCast_nonneg _, by show ((ofbe ((p1.drop 8).take 8) : Nat) : Int) < _; omega⟩ (h8.drop 16), Option.bind_some, if_pos hchk, if_pos rfl]
          simp only
          rw [hp, equal_ok h8 h8, Option.bind_some]
          simp
  · rw [get_len hl, Option.bind_some, if_pos (show (1 : Int) ≠ 0 by decide), show T_api_Frame.mk 0 0 0 [] = E0 from rfl, alike_nil]; rfl
theorem back_j3 {p0 : T_api_Frame} (F : Frm p0) {p1 b : List Int} (h8 : B8 p1) (hl : b.length = 256) (p2 : Int) : g6_j3 p0 p1 p2 (b, 0) p0.Kind p0.Page p0.Epoch (pad p0) 0 = some true := by
  unfold g6_j3
  have hlen := F.len
  have pl := pad_len F.len
  have hpad : B8 (pad p0) := F.data.append (B8.rep _)
  have hs : sameF (T_api_Frame.mk p0.Kind p0.Page p0.Epoch (pad p0)) p0 := ⟨rfl, rfl, rfl, trimZ_rep _ _⟩
  rw [if_neg (by decide), same_ok (a := T_api_Frame.mk p0.Kind p0.Page p0.Epoch (pad p0)) hpad F.data (by show (pad p0).length < _; omega) (by omega), Option.bind_some, if_neg (by simp [hs])]
  simp only
  rw [if_neg (by rw [hl]; decide), pl]
  unfold g6_j4
  rw [if_neg (by decide), back_j2 h8]
theorem Pure.FrameBack (p0 : T_api_Frame) (p1 : List Int) (p2 : Int) (h0 : okF p0) (h1 : p1.length ≤ 9223372036854775807 ∧ ∀ x ∈ p1, (Lit.int .u8 x).wf = true) (h2 : (Lit.int .i64 p2).wf = true) : g6 p0 p1 p2 = some true := by
  have h8 := B8.of_wf h1.2
  have key0 : ∀ c, g6_j1 p0 p1 p2 c = some true := by
    intro c
    unfold g6_j1
    by_cases hc : c = true
    · rw [if_pos hc, live_ok]; rfl
    · rw [if_neg hc, h0.put, Option.bind_some]
      by_cases hk : chk p0 = 0
      · have F := frm_of hk h0.epoch h0.data
        have hl := pg_len F.len
        rw [if_pos hk, if_pos rfl]
        simp only
        have key : (g8 (pg p0) p0.Page).bind (fun r => g6_j3 p0 p1 p2 (pg p0, 0) r.1.Kind r.1.Page r.1.Epoch r.1.Data r.2) = some true := by
          rw [get_ok F.pg8 hl, Option.bind_some, getS_pg F, if_pos rfl]
          exact back_j3 F h8 hl p2
        have hcut : cutI (pg p0) 0 ((pg p0).length : Int) = some (pg p0) := by
          rw [cutI_to (Nat.le_refl _), List.take_length]
        generalize pg p0 = b at *
        rw [get_inl hl] at key
        simp only [hcut, g6_j5, g6_j6, g6_j7, Option.bind_some, if_true, ite_decide]
        rw [if_neg (show ¬ ((b.length : Int) ≠ 256) by rw [hl]; decide), if_pos (show 256 ≤ b.length by omega), if_pos (show 256 ≤ b.length by omega)]
        exact key
      · rw [if_neg hk, if_neg (by simpa using hk), back_j2 h8]
  unfold g6
  rw [live_ok, Option.bind_some, if_neg (by simp), short_ok _ (by simp), Option.bind_some]
  split
  · exact key0 _
  · exact key0 _
end Go.Proofs.YtjkghheeeiacmaaDoor
