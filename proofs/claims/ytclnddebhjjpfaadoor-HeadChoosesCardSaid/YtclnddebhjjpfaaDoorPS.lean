/- Plain laws of frame: what the reference gets of a page; Want. -/
import Derived.Test.YtclnddebhjjpfaaDoorPR
set_option linter.unusedVariables false
set_option maxRecDepth 20000
namespace Go.Proofs.YtclnddebhjjpfaaDoor
open Go Go.SX
theorem getS_E0 (b : List Int) (at_ : Int) : (getS b at_).2 ≠ 0 → (getS b at_).1 = E0 := by
  unfold getS
  split
  · intro; rfl
  · split
    · intro; rfl
    · split
      · intro; rfl
      · intro h; exact absurd rfl h
theorem repoch_loop {d : List Int} (hd : B8 d) (hl : d.length = 252) {n x0 : Int} : ∀ (k fuel : Nat), k ≤ 8 → k < fuel →
    g53_l3 (d, true) n x0 fuel ((12 - k : Nat) : Int) ((ofbe ((d.drop 4).take (8 - k)) : Nat) : Int) = some (T_api_Frame.mk (IntKind.i64.wrap x0) n ((ofbe ((d.drop 4).take 8) : Nat) : Int) (d.drop 12), 0) := by
  intro k
  induction k with
  | zero =>
    intro fuel hk hf
    obtain ⟨n, rfl⟩ : ∃ n, fuel = n + 1 := ⟨fuel - 1, by omega⟩
    show g53_l3B (d, true) _ x0 (g53_l3 (d, true) _ x0 n) _ _ = _
    unfold g53_l3B
    simp only
    rw [if_neg (by omega), show (12 : Int) = ((12 : Nat) : Int) from rfl, cutI_from (by omega)]
    rfl
  | succ k ih =>
    intro fuel hk hf
    obtain ⟨n, rfl⟩ : ∃ n, fuel = n + 1 := ⟨fuel - 1, by omega⟩
    show g53_l3B (d, true) _ x0 (g53_l3 (d, true) _ x0 n) _ _ = _
    unfold g53_l3B
    simp only
    have hx : d[12 - (k + 1)]? = some d[12 - (k + 1)] := List.getElem?_eq_getElem (by omega)
    have hb := hd.get hx
    have hlt := ofbe_lt ((hd.drop 4).take (8 - (k + 1)))
    rw [List.length_take, List.length_drop, Nat.min_eq_left (by omega)] at hlt
    have h256 : 256 ^ (8 - (k + 1)) ≤ 256 ^ 7 := Nat.pow_le_pow_right (by decide) (by omega)
    have e3 : IntKind.i64.wrap (((12 - (k + 1) : Nat) : Int) + 1) = ((12 - k : Nat) : Int) := by rw [i64_in _ (by omega)]; omega
    have hdx : (d.drop 4)[8 - (k + 1)]? = some d[12 - (k + 1)] := by rw [List.getElem?_drop, show 4 + (8 - (k + 1)) = 12 - (k + 1) by omega, hx]
    have e4 : (d.drop 4).take (8 - k) = (d.drop 4).take (8 - (k + 1)) ++ [d[12 - (k + 1)]] := by
      have h1 : 8 - (k + 1) < (d.drop 4).length := by rw [List.length_drop]; omega
      rw [show 8 - k = 8 - (k + 1) + 1 by omega, List.take_succ_eq_append_getElem h1]
      congr 2
      rw [List.getElem?_eq_getElem h1] at hdx
      exact Option.some.inj hdx
    rw [if_pos (by omega), getI_nat, hx, Option.bind_some, u64_in (d[12 - (k + 1)]) (by omega), u64_in (((ofbe ((d.drop 4).take (8 - (k + 1))) : Nat) : Int) * 256) (by omega), u64_in _ (by omega), Option.bind_some, e3]
    have e5 : ((ofbe ((d.drop 4).take (8 - (k + 1))) : Nat) : Int) * 256 + d[12 - (k + 1)] = ((ofbe ((d.drop 4).take (8 - k)) : Nat) : Int) := by
      rw [e4, ofbe_append]; omega
    rw [e5, ih n (by omega) (by omega)]
theorem ofbe_two (x y : Int) : ofbe [x, y] = x.toNat * 256 + y.toNat := by simp [ofbe]
theorem rget_ok {b : List Int} (hb : B8 b) (hl : b.length = 256) (at_ : Int) : g53 b at_ = some (getS b at_) := by
  unfold g53
  rw [if_neg (by rw [hl]; decide), open_ok hb hl, Option.bind_some]
  by_cases hs : ofbe (b.take 4) = crcOf (b.drop 4)
  · have hnz : ¬ (b = List.replicate 256 0 ∨ ofbe (b.take 4) ≠ crcOf (b.drop 4)) := by
      rintro (h | h)
      · subst h
        rw [List.take_replicate, List.drop_replicate] at hs
        exact zsum (hs.symm.trans (by decide))
      · exact h hs
    rw [if_pos hs, if_neg (by simp)]
    simp only
    have hd := hb.drop 4
    have dl : (b.drop 4).length = 252 := by rw [List.length_drop, hl]
    have q0 : (b.drop 4)[0]? = some (b.getD 4 0) := by rw [List.getElem?_drop, List.getD_eq_getElem?_getD, List.getElem?_eq_getElem (by omega)]; rfl
    have q1 : (b.drop 4)[1]? = some (b.getD 5 0) := by rw [List.getElem?_drop, List.getD_eq_getElem?_getD, List.getElem?_eq_getElem (by omega)]; rfl
    have q2 : (b.drop 4)[2]? = some (b.getD 6 0) := by rw [List.getElem?_drop, List.getD_eq_getElem?_getD, List.getElem?_eq_getElem (by omega)]; rfl
    have q3 : (b.drop 4)[3]? = some (b.getD 7 0) := by rw [List.getElem?_drop, List.getD_eq_getElem?_getD, List.getElem?_eq_getElem (by omega)]; rfl
    have g0 := hd.get q0
    have g1 := hd.get q1
    have g2 := hd.get q2
    have g3 := hd.get q3
    have k0 : (fr b).Kind = b.getD 4 0 := by
      have : (b.drop 4).take 1 = [b.getD 4 0] := by
        rw [List.drop_eq_getElem?_toList_append, show b[4]? = some (b.getD 4 0) from by rw [List.getD_eq_getElem?_getD, List.getElem?_eq_getElem (by omega)]; rfl]
        rfl
      show ((ofbe ((b.drop 4).take 1) : Nat) : Int) = _
      rw [this, ofbe_one]
      omega
    have kp : (fr b).Page = b.getD 6 0 * 256 + b.getD 7 0 := by
      have : (b.drop 6).take 2 = [b.getD 6 0, b.getD 7 0] := by
        rw [List.drop_eq_getElem?_toList_append, show b[6]? = some (b.getD 6 0) from by rw [List.getD_eq_getElem?_getD, List.getElem?_eq_getElem (by omega)]; rfl,
          List.drop_eq_getElem?_toList_append, show b[6 + 1]? = some (b.getD 7 0) from by rw [List.getD_eq_getElem?_getD, List.getElem?_eq_getElem (by omega)]; rfl]
        rfl
      show ((ofbe ((b.drop 6).take 2) : Nat) : Int) = _
      rw [this, ofbe_two]
      omega
    have i0 : getI (b.drop 4) 0 = some (b.getD 4 0) := (getI_nat (i := 0)).trans q0
    have i1 : getI (b.drop 4) 1 = some (b.getD 5 0) := (getI_nat (i := 1)).trans q1
    have i2 : getI (b.drop 4) 2 = some (b.getD 6 0) := (getI_nat (i := 2)).trans q2
    have i3 : getI (b.drop 4) 3 = some (b.getD 7 0) := (getI_nat (i := 3)).trans q3
    have kf : fr b = T_api_Frame.mk (b.getD 4 0) (fr b).Page ((ofbe (((b.drop 4).drop 4).take 8) : Nat) : Int) ((b.drop 4).drop 12) := by
      rw [← k0, List.drop_drop, List.drop_drop]; rfl
    have j2 : ∀ c : Bool, g53_j2 (b.drop 4, true) (fr b).Page c = some (if c = true then (E0, 41) else (fr b, 0)) := by
      intro c
      unfold g53_j2
      by_cases hc : c = true
      · rw [if_pos hc, if_pos hc]; rfl
      · rw [if_neg hc, if_neg hc]
        simp only
        have lp := repoch_loop (n := (fr b).Page) (x0 := b.getD 4 0) hd dl 8 FUEL (by omega) (by unfold FUEL; omega)
        rw [show ((12 - 8 : Nat) : Int) = 4 from rfl, Nat.sub_self, List.take_zero, show ((ofbe [] : Nat) : Int) = 0 from rfl, i64_in (b.getD 4 0) (by omega), ← kf] at lp
        rw [i0, Option.bind_some, if_pos (by rw [dl]; decide), lp]
    have j1 : ∀ c : Bool, g53_j1 at_ (b.drop 4, true) c = some (if c = true then (E0, 42) else if (fr b).Page ≠ at_ ∨ 2048 ≤ (fr b).Page then (E0, 41) else (fr b, 0)) := by
      intro c
      unfold g53_j1
      by_cases hc : c = true
      · rw [if_pos hc, if_pos hc]; rfl
      · rw [if_neg hc, if_neg hc]
        simp only
        rw [i2, Option.bind_some, i3, Option.bind_some, i64_in (b.getD 6 0) (by omega), i64_in (b.getD 6 0 * 256) (by omega), i64_in (b.getD 7 0) (by omega), i64_in _ (by omega), ← kp, Option.bind_some]
        by_cases c1 : (fr b).Page ≠ at_
        · rw [if_pos c1, j2, if_pos rfl, if_pos (show (fr b).Page ≠ at_ ∨ 2048 ≤ (fr b).Page from .inl c1)]
        · rw [if_neg c1, j2]
          congr 1
          by_cases c2 : (fr b).Page ≥ 2048
          · rw [if_pos (show decide ((fr b).Page ≥ 2048) = true by simp [c2]), if_pos (show (fr b).Page ≠ at_ ∨ 2048 ≤ (fr b).Page from .inr c2)]
          · rw [if_neg (show ¬ decide ((fr b).Page ≥ 2048) = true by simpa using c2), if_neg (show ¬ ((fr b).Page ≠ at_ ∨ 2048 ≤ (fr b).Page) by rintro (h | h); exact c1 h; exact c2 h)]
    have j1t : g53_j1 at_ (b.drop 4, true) true = some (E0, 42) := by rw [j1, if_pos rfl]
    rw [i0, Option.bind_some, Option.bind_some, i1, Option.bind_some, j1t, j1]
    unfold getS
    rw [if_neg hnz, k0]
    by_cases c1 : b.getD 4 0 < 1
    · rw [if_pos c1, if_pos (show ¬ (1 ≤ b.getD 4 0 ∧ b.getD 4 0 ≤ 4) ∨ b.getD 5 0 ≠ 0 from .inl (by omega))]
    · rw [if_neg c1]
      by_cases c2 : b.getD 4 0 > 4
      · rw [if_pos c2, if_pos (show ¬ (1 ≤ b.getD 4 0 ∧ b.getD 4 0 ≤ 4) ∨ b.getD 5 0 ≠ 0 from .inl (by omega))]
      · rw [if_neg c2]
        generalize b.getD 5 0 = z
        by_cases c3 : z = 0
        · rw [if_neg (show ¬ decide (z ≠ 0) = true by simp [c3]), if_neg (show ¬ (¬ (1 ≤ b.getD 4 0 ∧ b.getD 4 0 ≤ 4) ∨ z ≠ 0) by rintro (h | h); omega; exact h c3)]
        · rw [if_pos (show decide (z ≠ 0) = true by simp [c3]), if_pos (show ¬ (1 ≤ b.getD 4 0 ∧ b.getD 4 0 ≤ 4) ∨ z ≠ 0 from .inr c3)]
  · rw [if_neg hs, if_pos (by simp)]
    unfold getS
    rw [if_pos (.inr hs)]
    rfl
theorem rget_len {b : List Int} (h : b.length ≠ 256) (at_ : Int) : g53 b at_ = some (E0, 1) := by
  unfold g53
  rw [if_pos (by omega)]
  rfl
/-- What Get tells of any bytes. -/
def getA (b : List Int) (at_ : Int) : T_api_Frame × Int := if b.length = 256 then getS b at_ else (E0, 1)
theorem getA_ok {b : List Int} (hb : B8 b) (at_ : Int) : g70 b at_ = some (getA b at_) := by
  unfold getA
  by_cases h : b.length = 256
  · rw [if_pos h, get_ok hb h]
  · rw [if_neg h, get_len h]
theorem rgetA_ok {b : List Int} (hb : B8 b) (at_ : Int) : g53 b at_ = some (getA b at_) := by
  unfold getA
  by_cases h : b.length = 256
  · rw [if_pos h, rget_ok hb h]
  · rw [if_neg h, rget_len h]
theorem getA_E0 (b : List Int) (at_ : Int) : (getA b at_).2 ≠ 0 → (getA b at_).1 = E0 := by
  unfold getA
  split
  · exact getS_E0 b at_
  · intro; rfl
/-! ### Want -/
def wantS (r : T_api_Frame × Int) (kinds : List Int) : T_api_Frame × Int := if r.2 = 0 then (if r.1.Kind ∈ kinds then r else (E0, 42)) else (E0, r.2)
theorem index_loop (l : List Int) (x : Int) (hb : l.length < 9223372036854775807) : ∀ (fuel i : Nat), i ≤ l.length → l.length - i < fuel → ∃ k : Int, g77_l1 l x fuel (i : Int) = some k ∧ (k ≥ 0 ↔ x ∈ l.drop i) := by
  intro fuel
  induction fuel with
  | zero => intro i _ h; omega
  | succ n ih =>
    intro i hi hf
    have hun : g77_l1 l x (n + 1) (i : Int) = g77_l1B l x (g77_l1 l x n) (i : Int) := rfl
    rw [hun]
    unfold g77_l1B
    by_cases h : i < l.length
    · rw [if_pos (by omega), getI_nat, List.getElem?_eq_getElem h, Option.bind_some, List.drop_eq_getElem_cons h]
      by_cases hx : x = l[i]
      · rw [if_pos hx]
        exact ⟨i, rfl, fun _ => by rw [hx]; exact List.mem_cons_self .., fun _ => Int.natCast_nonneg _⟩
      · rw [if_neg hx, i64_in _ (by omega), show (i : Int) + 1 = ((i + 1 : Nat) : Int) by omega]
        obtain ⟨k, h1, h2⟩ := ih (i + 1) (by omega) (by omega)
        exact ⟨k, h1, by rw [h2, List.mem_cons]; exact ⟨.inr, fun h => h.resolve_left hx⟩⟩
    · rw [if_neg (by omega), List.drop_of_length_le (by omega)]
      exact ⟨-1, rfl, by simp⟩
theorem contains_ok (l : List Int) (x : Int) (hb : l.length < 9223372036854775807) : g65 l x = some (decide (x ∈ l)) := by
  unfold g65 g77
  obtain ⟨k, h1, h2⟩ := index_loop l x hb FUEL 0 (by omega) (by unfold FUEL; omega)
  have h3 := h1
  rw [show ((0 : Nat) : Int) = 0 from rfl] at h3
  rw [h3, Option.bind_some]
  congr 1
  rw [decide_eq_decide, h2, List.drop_zero]
theorem rwant_loop (l : List Int) (r : T_api_Frame × Int) (hb : l.length < 9223372036854775807) : ∀ (fuel i : Nat), i ≤ l.length → l.length - i < fuel → g31_l1 l r fuel (i : Int) = some (if r.1.Kind ∈ l.drop i then (r.1, 0) else (E0, 42)) := by
  intro fuel
  induction fuel with
  | zero => intro i _ h; omega
  | succ n ih =>
    intro i hi hf
    show g31_l1B l r (g31_l1 l r n) (i : Int) = _
    unfold g31_l1B
    by_cases h : i < l.length
    · rw [if_pos (by omega), getI_nat, List.getElem?_eq_getElem h, Option.bind_some, List.drop_eq_getElem_cons h]
      by_cases hx : l[i] = r.1.Kind
      · rw [if_pos hx, if_pos (by simp [hx])]
      · rw [if_neg hx, i64_in _ (by omega), show (i : Int) + 1 = ((i + 1 : Nat) : Int) by omega, ih (i + 1) (by omega) (by omega)]
        have hx2 : ¬ r.1.Kind = l[i] := fun e => hx e.symm
        simp only [List.mem_cons, hx2, false_or]
    · rw [if_neg (by omega), List.drop_of_length_le (by omega), if_neg (by simp)]
      rfl
theorem rwant_ok {b : List Int} (hb : B8 b) (at_ : Int) (l : List Int) (hl : l.length < 9223372036854775807) : g31 b at_ l = some (wantS (getA b at_) l) := by
  unfold g31 wantS
  rw [rgetA_ok hb, Option.bind_some]
  by_cases h : (getA b at_).2 = 0
  · rw [if_neg (by simp [h]), if_pos h]
    have := rwant_loop l (getA b at_) hl FUEL 0 (by omega) (by unfold FUEL; omega)
    rw [List.drop_zero] at this
    rw [show (0 : Int) = ((0 : Nat) : Int) from rfl, this]
    congr 1
    have e : getA b at_ = ((getA b at_).1, 0) := by rw [← h]
    by_cases c : (getA b at_).1.Kind ∈ l
    · rw [if_pos c, if_pos c]; exact e.symm
    · rw [if_neg c, if_neg c]
  · rw [if_pos h, if_neg h]
    rfl
theorem want_ok {b : List Int} (hb : B8 b) (at_ : Int) (l : List Int) (hl : l.length < 9223372036854775807) : g52 b at_ l = some (wantS (getA b at_) l) := by
  unfold g52 wantS
  rw [getA_ok hb, Option.bind_some]
  have j1 : ∀ c : Bool, g52_j1 (getA b at_) c = some (if c = true then (E0, 42) else getA b at_) := by
    intro c; unfold g52_j1; by_cases hc : c = true
    · rw [if_pos hc, if_pos hc]; rfl
    · rw [if_neg hc, if_neg hc]
  rw [j1, contains_ok l _ hl, Option.bind_some, j1]
  by_cases h : (getA b at_).2 = 0
  · rw [if_pos h, if_pos h]
    by_cases c : (getA b at_).1.Kind ∈ l
    · rw [if_pos c, if_neg (by simp [c])]
    · rw [if_neg c, if_pos (by simp [c])]
  · rw [if_neg h, if_neg h, if_neg (by decide)]
    congr 1
    have := getA_E0 b at_ h
    rw [← this]
end Go.Proofs.YtclnddebhjjpfaaDoor
