/- Plain laws of pack: texts; readers of whatever bytes. -/
import Derived.Test.YtclnddebhjjpfaaDoorPB
set_option linter.unusedVariables false
set_option maxRecDepth 20000
namespace Go.Proofs.YtclnddebhjjpfaaDoor
open Go Go.SX
def tx (t : List Int) : List Int := (t.length : Int) :: t
theorem tx_len (t : List Int) : (tx t).length = t.length + 1 := by simp [tx]
theorem tx_8 {t : List Int} (h : B8 t) (hl : t.length ≤ 255) : B8 (tx t) := B8.cons (by omega) h
theorem text_ok {b t : List Int} (ht : t.length ≤ 255) (hb : b.length ≤ 1000000000) : g38 b t = some (b ++ tx t, 0) := by
  unfold g38
  have e1 : IntKind.i64.wrap ((b.length : Int) + IntKind.i64.wrap (1 + (t.length : Int))) = ((b.length + (1 + t.length) : Nat) : Int) := by
    rw [i64_in (1 + (t.length : Int)) (by omega), i64_in _ (by omega)]; omega
  rw [if_neg (by omega), e1, Option.bind_some, repI_nat (by omega), Option.bind_some, Option.bind_some]
  have e2 : copyI (List.replicate (b.length + (1 + t.length)) (0 : Int)) 0 ((List.replicate (b.length + (1 + t.length)) (0 : Int)).length : Int) b = b ++ 0 :: List.replicate t.length 0 := by
    unfold copyI
    simp only [List.length_replicate, Int.toNat_zero, List.take_zero, List.nil_append, Int.sub_zero, Int.toNat_natCast, Nat.zero_add]
    rw [List.take_of_length_le (by omega), List.drop_replicate, Nat.min_eq_right (by omega), show b.length + (1 + t.length) - b.length = t.length + 1 by omega, List.replicate_succ]
  rw [e2]
  have hlen : (b ++ (0 : Int) :: List.replicate t.length 0).length = b.length + (1 + t.length) := by simp; omega
  have e3 : (b.length : Int) + 0 = ((b.length : Nat) : Int) := by omega
  rw [if_pos (by rw [hlen]; omega), if_pos (by rw [hlen]; omega), e3, getI_nat, get_mid rfl, Option.bind_some, setI_nat (by rw [hlen]; omega), Option.bind_some, set_mid rfl, if_pos (by rw [hlen]; omega), u8_in _ (by omega)]
  have := copy_mid (a := b ++ [(t.length : Int)]) (m := List.replicate t.length 0) (c := []) (ys := t) (l := (b.length : Int) + 1) (h := (b.length : Int) + (((b.length + (1 + t.length) : Nat) : Int) - (b.length : Int))) (by simp) (by simp; omega) (by simp)
  rw [List.append_nil, List.append_nil, List.append_assoc] at this
  rw [hlen]
  simp only [List.cons_append, List.nil_append] at this
  rw [this]
  simp [tx]
/-- A text, taken. -/
theorem Text_ok {t rest : List Int} {most : Nat} (ht : t.length ≤ most) (hm : most ≤ 255) : g35 ⟨tx t ++ rest, 0, true⟩ (most : Int) = some (t, ⟨rest, 0, true⟩) := by
  unfold g35
  have g0 : getI (tx t ++ rest) 0 = some (t.length : Int) := rfl
  have hlen : ((tx t ++ rest).length : Int) = (t.length : Int) + 1 + (rest.length : Int) := by simp [tx_len]
  rw [none_ok, Option.bind_some, if_neg (by simp), if_neg (by omega)]
  simp only
  rw [if_neg (by rw [hlen]; omega), g0, Option.bind_some, Option.bind_some, i64_in _ (by omega), if_neg (by omega), if_neg (by rw [hlen]; omega)]
  unfold g35_j1
  simp only
  rw [if_neg (by decide), g0, Option.bind_some, i64_in (t.length : Int) (by omega), i64_in _ (by omega), show (1 : Int) + (t.length : Int) = ((1 + t.length : Nat) : Int) by omega, next_ok (by simp [tx_len]; omega), Option.bind_some]
  simp only
  have e1 : (tx t ++ rest).take (1 + t.length) = tx t := by
    rw [List.take_append_of_le_length (by rw [tx_len]; omega), List.take_of_length_le (by rw [tx_len]; omega)]
  have e2 : (tx t ++ rest).drop (1 + t.length) = rest := by
    rw [List.drop_append_of_le_length (by rw [tx_len]; omega), List.drop_of_length_le (by rw [tx_len]; omega), List.nil_append]
  rw [e1, e2, show (1 : Int) = ((1 : Nat) : Int) from rfl, cutI_from (by rw [tx_len]; omega), Option.bind_some]
  rfl
/-- A reader that some call made. -/
structure RdOk (r : T_pack_Reader) : Prop where
  made : r.made = true
  bytes : B8 r.b
  len : r.b.length ≤ 1000000
theorem fails_ok (r : T_pack_Reader) (e : Int) : g57_1 r e = some ⟨r.b, e, r.made⟩ := rfl
theorem next_any {r : T_pack_Reader} (h : RdOk r) {n : Nat} : ∃ t r', g58_1 r (n : Int) = some (t, r') ∧ RdOk r' ∧ B8 t ∧ t.length ≤ n ∧ (r.err = 0 ∧ n ≤ r.b.length → t.length = n) := by
  obtain ⟨b, e, m⟩ := r
  obtain ⟨hm, hb, hl⟩ := h
  simp only at hm hb hl
  subst hm
  by_cases he : e = 0
  · subst he
    by_cases hn : n ≤ b.length
    · exact ⟨_, _, next_ok hn, ⟨rfl, hb.drop n, by simp; omega⟩, hb.take n, by simp; omega, fun _ => by simp; omega⟩
    · exact ⟨_, _, next_short (by omega), ⟨rfl, hb, hl⟩, B8.nil, by simp, fun h => absurd h.2 hn⟩
  · exact ⟨_, _, next_err he, ⟨rfl, hb, hl⟩, B8.nil, by simp, fun h => absurd h.1 he⟩
theorem number_any {r : T_pack_Reader} (h : RdOk r) {n : Nat} (hn : n ≤ 8) : ∃ v r', g55_1 r (n : Int) = some (((v : Nat) : Int), r') ∧ RdOk r' ∧ v < 256 ^ n := by
  obtain ⟨t, r', h1, h2, h3, h4, _⟩ := next_any h (n := n)
  unfold g55_1
  rw [h1, Option.bind_some, number_fold h3 (by omega)]
  exact ⟨_, _, rfl, h2, Nat.lt_of_lt_of_le (ofbe_lt h3) (Nat.pow_le_pow_right (by decide) h4)⟩
theorem Text_any {r : T_pack_Reader} (h : RdOk r) {most : Nat} (hm : most ≤ 255) : ∃ t r', g35 r (most : Int) = some (t, r') ∧ RdOk r' ∧ B8 t ∧ t.length ≤ most := by
  have hr := h
  obtain ⟨b, e, m⟩ := r
  obtain ⟨h1, hb, hl⟩ := h
  simp only at h1 hb hl
  subst h1
  have bad : ∀ x : Int, x ≠ 0 → ∃ t r', g35_j1 ⟨b, e, true⟩ x = some (t, r') ∧ RdOk r' ∧ B8 t ∧ t.length ≤ most := by
    intro x hx
    unfold g35_j1
    rw [if_pos hx, fails_ok, Option.bind_some]
    exact ⟨_, _, rfl, ⟨rfl, hb, hl⟩, B8.nil, by simp⟩
  unfold g35
  rw [none_ok, Option.bind_some]
  by_cases he : e = 0
  · subst he
    rw [if_neg (by simp), if_neg (by omega)]
    simp only
    by_cases h0 : (b.length : Int) = 0
    · rw [if_pos h0]
      exact bad 10 (by decide)
    · rw [if_neg h0]
      obtain ⟨c, cs, rfl⟩ : ∃ c cs, b = c :: cs := by cases b with | nil => simp at h0 | cons c cs => exact ⟨c, cs, rfl⟩
      have hc := hb c (List.mem_cons_self ..)
      have g0 : getI (c :: cs) 0 = some c := rfl
      rw [g0, Option.bind_some, Option.bind_some, i64_in c (by omega)]
      by_cases c1 : c > (most : Int)
      · rw [if_pos c1]; exact bad 3 (by decide)
      · rw [if_neg c1]
        by_cases c2 : c ≥ ((c :: cs).length : Int)
        · rw [if_pos c2]; exact bad 10 (by decide)
        · rw [if_neg c2]
          unfold g35_j1
          simp only
          rw [if_neg (by decide), g0, Option.bind_some, i64_in c (by omega), i64_in _ (by omega)]
          obtain ⟨k, rfl⟩ : ∃ k : Nat, c = k := ⟨c.toNat, by omega⟩
          rw [show (1 : Int) + (k : Int) = ((1 + k : Nat) : Int) by omega, next_ok (by simp at c2 ⊢; omega), Option.bind_some]
          simp only
          have hl2 : (List.take (1 + k) ((k : Int) :: cs)).length = 1 + k := by rw [List.length_take]; simp at c2 ⊢; omega
          rw [show (1 : Int) = ((1 : Nat) : Int) from rfl, cutI_from (by omega), Option.bind_some]
          exact ⟨_, _, rfl, ⟨rfl, hb.drop _, by simp at hl ⊢; omega⟩, (hb.take _).drop _, by rw [List.length_drop, hl2]; omega⟩
  · rw [if_pos (by simp [he])]
    exact ⟨_, _, rfl, hr, B8.nil, by simp⟩
theorem Err_ok {r : T_pack_Reader} (h : r.made = true) : g36 r = some r.err := by
  unfold g36
  rw [if_neg (by simp [h])]
theorem U8_eq (r : T_pack_Reader) : g34 r = (g55_1 r 1).bind fun x => some (IntKind.u8.wrap x.1, x.2) := by
  unfold g34
  first | rw [same48] | rfl
theorem U8_any {r : T_pack_Reader} (h : RdOk r) : ∃ (v : Nat) (r' : T_pack_Reader), g34 r = some ((v : Int), r') ∧ RdOk r' ∧ v < 256 := by
  obtain ⟨v, r', h1, h2, h3⟩ := number_any h (n := 1) (by omega)
  rw [U8_eq, show (1 : Int) = ((1 : Nat) : Int) from rfl, h1, Option.bind_some]
  exact ⟨v, r', by rw [u8_in _ (by omega)], h2, by omega⟩
theorem U16_any {r : T_pack_Reader} (h : RdOk r) : ∃ (v : Nat) (r' : T_pack_Reader), g33 r = some ((v : Int), r') ∧ RdOk r' ∧ v < 65536 := by
  obtain ⟨v, r', h1, h2, h3⟩ := number_any h (n := 2) (by omega)
  unfold g33
  rw [show (2 : Int) = ((2 : Nat) : Int) from rfl, h1, Option.bind_some]
  exact ⟨v, r', by rw [u16_in _ (by omega)], h2, by omega⟩
theorem U8_ok {c : Nat} {rest : List Int} (hc : c < 256) (hr : B8 rest) : g34 ⟨(c : Int) :: rest, 0, true⟩ = some ((c : Int), ⟨rest, 0, true⟩) := by
  rw [U8_eq, show (1 : Int) = ((1 : Nat) : Int) from rfl, number_ok (B8.cons (by omega) hr) (by omega) (by simp), Option.bind_some]
  have : ofbe (List.take 1 ((c : Int) :: rest)) = c := by simp [ofbe]
  rw [this, u8_in _ (by omega)]
  rfl
theorem U16_ok {v : Nat} {rest : List Int} (hv : v < 65536) (hr : B8 rest) : g33 ⟨be 2 v ++ rest, 0, true⟩ = some ((v : Int), ⟨rest, 0, true⟩) := by
  unfold g33
  rw [show (2 : Int) = ((2 : Nat) : Int) from rfl, number_ok ((be_B8 _ _).append hr) (by omega) (by simp [be_len]), Option.bind_some]
  have e1 : (be 2 v ++ rest).take 2 = be 2 v := by rw [List.take_append_of_le_length (by rw [be_len]; omega), List.take_of_length_le (by rw [be_len]; omega)]
  have e2 : (be 2 v ++ rest).drop 2 = rest := by rw [List.drop_append_of_le_length (by rw [be_len]; omega), List.drop_of_length_le (by rw [be_len]; omega), List.nil_append]
  rw [e1, e2, ofbe_be, Nat.mod_eq_of_lt (by omega), u16_in _ (by omega)]
theorem U16_own : g33_1 = g33 := by
  funext r
  unfold g33_1 g33
  rw [same48]
end Go.Proofs.YtclnddebhjjpfaaDoor
