/- Plain laws of frame: the page of a frame, and the frame of a page. -/
import Derived.Test.YtclnddebhjjpfaaDoorPA
set_option linter.unusedVariables false
set_option maxRecDepth 20000
namespace Go.Proofs.YtclnddebhjjpfaaDoor
open Go Go.SX
theorem ite_bind {α β : Type} {p : Prop} [Decidable p] {a b : Option α} {f : α → Option β} : (if p then a else b).bind f = if p then a.bind f else b.bind f := by split <;> rfl
theorem copy_mid {a m c ys : List Int} {l h : Int} (hl : l = (a.length : Int)) (hh : h = ((a.length + m.length : Nat) : Int)) (hy : ys.length ≤ m.length) : copyI (a ++ (m ++ c)) l h ys = a ++ (ys ++ (m.drop ys.length ++ c)) := by
  subst hl hh
  unfold copyI
  rw [Int.toNat_natCast, List.take_left, show (((a.length + m.length : Nat) : Int) - (a.length : Int)).toNat = m.length by omega, List.take_of_length_le hy, Nat.min_eq_right hy, List.drop_append, List.append_assoc]
  rw [List.drop_of_length_le (by omega), List.nil_append, show a.length + ys.length - a.length = ys.length by omega, List.drop_append, show ys.length - m.length = 0 by omega]
  rfl
structure Frm (f : T_api_Frame) : Prop where
  kind : 1 ≤ f.Kind ∧ f.Kind ≤ 4
  page : 0 ≤ f.Page ∧ f.Page < 2048
  epoch : 0 ≤ f.Epoch ∧ f.Epoch < 18446744073709551616
  len : f.Data.length ≤ 240
  data : B8 f.Data
def hd (f : T_api_Frame) : List Int := f.Kind :: 0 :: (be 2 f.Page.toNat ++ be 8 f.Epoch.toNat)
def pad (f : T_api_Frame) : List Int := f.Data ++ List.replicate (240 - f.Data.length) 0
def body (f : T_api_Frame) : List Int := hd f ++ pad f
def pg (f : T_api_Frame) : List Int := be 4 (crcOf (body f)) ++ body f
theorem hd_len (f : T_api_Frame) : (hd f).length = 12 := by simp [hd, be_len]
theorem pad_len {f : T_api_Frame} (h : f.Data.length ≤ 240) : (pad f).length = 240 := by simp [pad]; omega
theorem body_len {f : T_api_Frame} (h : f.Data.length ≤ 240) : (body f).length = 252 := by rw [body, List.length_append, hd_len, pad_len h]
theorem pg_len {f : T_api_Frame} (h : f.Data.length ≤ 240) : (pg f).length = 256 := by rw [pg, List.length_append, be_len, body_len h]
theorem Frm.body8 {f : T_api_Frame} (h : Frm f) : B8 (body f) := by
  have := h.kind
  exact (B8.cons (by omega) (B8.cons (by omega) ((be_B8 _ _).append (be_B8 _ _)))).append (h.data.append (B8.rep _))
theorem Frm.pg8 {f : T_api_Frame} (h : Frm f) : B8 (pg f) := (be_B8 _ _).append h.body8
theorem lay_ok {f : T_api_Frame} (h : Frm f) : g61 f = some (pg f) := by
  have hk := h.kind
  have hp := h.page
  have he := h.epoch
  have hl := h.len
  have hb := h.body8
  unfold g61
  have e4 : (4 : Int) = ((4 : Nat) : Int) := rfl
  have ek : IntKind.u8.wrap f.Kind = f.Kind := u8_in _ (by omega)
  have ep : IntKind.u16.wrap f.Page = ((f.Page.toNat : Nat) : Int) := by rw [u16_in _ (by omega)]; omega
  have ee : f.Epoch = ((f.Epoch.toNat : Nat) : Int) := by omega
  have ex : ∃ x, getI (List.replicate 256 (0 : Int)) 4 = some x := ⟨0, by rw [e4, getI_nat]; rfl⟩
  obtain ⟨x, hx⟩ := ex
  have ez : (List.replicate 256 (0 : Int)) = List.replicate 4 0 ++ 0 :: (List.replicate 1 0 ++ (List.replicate 10 0 ++ List.replicate 240 0)) := rfl
  have es : setI (List.replicate 256 (0 : Int)) 4 f.Kind = some ((List.replicate 4 0 ++ f.Kind :: (List.replicate 1 0 ++ (List.replicate 10 0 ++ List.replicate 240 0)))) := by
    rw [e4, setI_nat (by rw [List.length_replicate]; omega), ez, set_mid (by rfl)]
  rw [hx, Option.bind_some, ek, es, Option.bind_some, ep, u16_ok (by omega) (by simp), Option.bind_some, List.nil_append, ee, u64_ok (by omega) (by rw [be_len]; omega), Option.bind_some, Option.bind_some]
  have c1 : copyI (List.replicate 4 0 ++ f.Kind :: (List.replicate 1 0 ++ (List.replicate 10 0 ++ List.replicate 240 0))) 6 16 (be 2 f.Page.toNat ++ be 8 f.Epoch.toNat) = List.replicate 4 0 ++ (hd f ++ (List.replicate 240 0)) := by
    have := copy_mid (a := List.replicate 4 0 ++ f.Kind :: (List.replicate 1 0)) (m := List.replicate 10 0) (c := List.replicate 240 0) (ys := be 2 f.Page.toNat ++ be 8 f.Epoch.toNat) (l := 6) (h := 16) (by rfl) (by rfl) (by simp [be_len])
    rw [List.append_assoc, List.cons_append] at this
    rw [this, List.length_append, be_len, be_len]
    simp [hd]
  rw [c1]
  have hlen : (List.replicate 4 0 ++ (hd f ++ List.replicate 240 (0 : Int))).length = 256 := by simp [hd_len]
  have c2 : copyI (List.replicate 4 0 ++ (hd f ++ (List.replicate 240 0))) 16 ((List.replicate 4 0 ++ (hd f ++ List.replicate 240 (0 : Int))).length : Int) f.Data = List.replicate 4 0 ++ body f := by
    rw [hlen]
    have := copy_mid (a := List.replicate 4 0 ++ hd f) (m := List.replicate 240 0) (c := []) (ys := f.Data) (l := 16) (h := 256) (by simp [hd_len]) (by simp [hd_len]) (by simpa using hl)
    rw [List.append_nil, List.append_nil, List.append_assoc] at this
    rw [show ((256 : Nat) : Int) = 256 from rfl, this, List.drop_replicate, List.append_assoc]
    rfl
  have hlen2 : (List.replicate 4 0 ++ body f).length = 256 := by simp [body_len hl]
  rw [if_pos (by rw [hlen]; decide), Option.bind_some, c2, if_pos (by rw [hlen2]; decide)]
  have c3 : cutI (List.replicate 4 0 ++ body f) 4 ((List.replicate 4 0 ++ body f).length : Int) = some (body f) := by
    rw [e4, cutI_from (by rw [hlen2]; decide)]
    rfl
  have := crc_ok hb (by rw [body_len hl]; decide) (fun s => (g74 [] s).bind fun x => (some (copyI (List.replicate 4 0 ++ body f) 0 4 x)).bind fun y => some y)
  have h0 := of_ok
  rw [c3]
  simp only [h0, Option.bind_some] at this ⊢
  rw [this, u32_ok (by exact crcOf_lt hb) (by simp), Option.bind_some, List.nil_append]
  have := copy_mid (a := []) (m := List.replicate 4 0) (c := body f) (ys := be 4 (crcOf (body f))) (l := 0) (h := 4) (by rfl) (by rfl) (by simp [be_len])
  rw [List.nil_append] at this
  rw [this, be_len]
  rfl
theorem right_ok (k : Int) : g72 k = some (decide (1 ≤ k ∧ k ≤ 4)) := by
  unfold g72
  by_cases h : k ≥ 1
  · rw [if_pos h]; simp [show 1 ≤ k from h]
  · rw [if_neg h]; simp [show ¬ 1 ≤ k from h]
/-- What Check tells. -/
def chk (f : T_api_Frame) : Int := if ¬ (1 ≤ f.Kind ∧ f.Kind ≤ 4) then 42 else if f.Page < 0 ∨ 2048 ≤ f.Page then 41 else if 240 < f.Data.length then 3 else 0
theorem check_ok (f : T_api_Frame) : g60 f = some (chk f) := by
  unfold g60 chk
  rw [right_ok, Option.bind_some]
  by_cases h1 : 1 ≤ f.Kind ∧ f.Kind ≤ 4
  · rw [decide_eq_true h1, if_neg (by simp), if_neg (show ¬ ¬ (1 ≤ f.Kind ∧ f.Kind ≤ 4) from fun h => h h1)]
    unfold g60_j1
    by_cases h2 : f.Page < 0
    · rw [if_pos h2, if_pos rfl, if_pos (show f.Page < 0 ∨ 2048 ≤ f.Page from .inl h2)]
    · rw [if_neg h2]
      by_cases h3 : f.Page ≥ 2048
      · rw [if_pos (by simp [h3]), if_pos (show f.Page < 0 ∨ 2048 ≤ f.Page from .inr h3)]
      · rw [if_neg (by simp; omega), if_neg (show ¬ (f.Page < 0 ∨ 2048 ≤ f.Page) by omega)]
        by_cases h4 : (f.Data.length : Int) > 240
        · rw [if_pos h4, if_pos (by omega)]
        · rw [if_neg h4, if_neg (by omega)]
  · rw [decide_eq_false h1, if_pos (by simp), if_pos h1]
theorem frm_of {f : T_api_Frame} (h : chk f = 0) (he : 0 ≤ f.Epoch ∧ f.Epoch < 18446744073709551616) (hd : B8 f.Data) : Frm f := by
  unfold chk at h
  split at h
  · cases h
  · rename_i h1
    split at h
    · cases h
    · rename_i h2
      split at h
      · cases h
      · exact ⟨Decidable.not_not.1 h1, by omega, he, by omega, hd⟩
theorem Frm.chk0 {f : T_api_Frame} (h : Frm f) : chk f = 0 := by
  have h1 := h.kind
  have h2 := h.page
  have h3 := h.len
  unfold chk
  rw [if_neg (by omega), if_neg (by omega), if_neg (by omega)]
theorem put_ok {f : T_api_Frame} (he : 0 ≤ f.Epoch ∧ f.Epoch < 18446744073709551616) (hd : B8 f.Data) : g40 f = some (if chk f = 0 then (pg f, 0) else ([], chk f)) := by
  unfold g40
  rw [check_ok, Option.bind_some]
  by_cases h : chk f = 0
  · rw [if_neg (by simpa using h), lay_ok (frm_of h he hd), if_pos h]; rfl
  · rw [if_pos h, if_neg h]
/-! ### Get -/
def E0 : T_api_Frame := ⟨0, 0, 0, []⟩
def fr (b : List Int) : T_api_Frame := ⟨ofbe ((b.drop 4).take 1), ofbe ((b.drop 6).take 2), ofbe ((b.drop 8).take 8), b.drop 16⟩
theorem take_ok {b : List Int} (hb : B8 b) (hl : b.length = 256) : g80 b = some (fr b, ((ofbe (b.take 4) : Nat) : Int)) := by
  have o1 := ofbe_lt ((hb.drop 4).take 1)
  have o2 := ofbe_lt ((hb.drop 6).take 2)
  have o4 := ofbe_lt (hb.take 4)
  have o5 := ofbe_lt ((hb.drop 5).take 1)
  simp only [List.length_take, List.length_drop, hl] at o1 o2 o4 o5
  rw [show min 1 (256 - 4) = 1 from rfl, show 256 ^ 1 = 256 from rfl] at o1
  rw [show min 2 (256 - 6) = 2 from rfl, show 256 ^ 2 = 65536 from rfl] at o2
  rw [show min 4 256 = 4 from rfl, show 256 ^ 4 = 4294967296 from rfl] at o4
  rw [show min 1 (256 - 5) = 1 from rfl, show 256 ^ 1 = 256 from rfl] at o5
  unfold g80
  rw [read_ok (by omega), Option.bind_some]
  unfold g83
  rw [same48, show (4 : Int) = ((4 : Nat) : Int) from rfl, number_ok hb (by omega) (by omega), Option.bind_some, Option.bind_some, u32_in _ (by omega)]
  unfold g34
  simp only
  rw [show (1 : Int) = ((1 : Nat) : Int) from rfl, number_ok (hb.drop 4) (by omega) (by rw [List.length_drop]; omega), Option.bind_some, Option.bind_some, u8_in _ (by omega)]
  simp only [List.drop_drop]
  rw [number_ok (hb.drop _) (by omega) (by rw [List.length_drop]; omega), Option.bind_some, Option.bind_some, u8_in _ (by rw [show 4 + 1 = 5 from rfl]; omega)]
  unfold g33
  simp only [List.drop_drop]
  rw [show (2 : Int) = ((2 : Nat) : Int) from rfl, number_ok (hb.drop _) (by omega) (by rw [List.length_drop]; omega), Option.bind_some, Option.bind_some, u16_in _ (by rw [show 4 + 1 + 1 = 6 from rfl]; omega)]
  unfold g84
  simp only [List.drop_drop]
  rw [show (8 : Int) = ((8 : Nat) : Int) from rfl, number_ok (hb.drop _) (by omega) (by rw [List.length_drop]; omega), Option.bind_some, Option.bind_some]
  unfold g85
  simp only [List.drop_drop]
  rw [none_ok, Option.bind_some, if_neg (by simp), if_neg (by simp), show (240 : Int) = ((240 : Nat) : Int) from rfl, next_ok (by rw [List.length_drop]; omega), Option.bind_some, Option.bind_some]
  simp only [Nat.reduceAdd]
  rw [i64_in _ (by omega), i64_in _ (by omega), List.take_of_length_le (i := 240) (by rw [List.length_drop]; omega)]
  rfl
/-- What Get tells of a page's bytes. -/
def getS (b : List Int) (at_ : Int) : T_api_Frame × Int :=
  if b = List.replicate 256 0 ∨ ofbe (b.take 4) ≠ crcOf (b.drop 4) then (E0, 40)
  else if ¬ (1 ≤ (fr b).Kind ∧ (fr b).Kind ≤ 4) ∨ b.getD 5 0 ≠ 0 then (E0, 42)
  else if (fr b).Page ≠ at_ ∨ 2048 ≤ (fr b).Page then (E0, 41)
  else (fr b, 0)
theorem get_ok {b : List Int} (hb : B8 b) (hl : b.length = 256) (at_ : Int) : g70 b at_ = some (getS b at_) := by
  unfold g70
  have e4 : (4 : Int) = ((4 : Nat) : Int) := rfl
  have ht : List.take 256 b = b := List.take_of_length_le (by omega)
  rw [if_neg (by rw [hl]; decide), if_pos (by omega), ht, take_ok hb hl, Option.bind_some]
  have jj2 : ∀ c : Bool, g70_j2 at_ (fr b, ((ofbe (b.take 4) : Nat) : Int)) c = some (if c = true then (E0, 42) else if (fr b).Page ≠ at_ ∨ 2048 ≤ (fr b).Page then (E0, 41) else (fr b, 0)) := by
    intro c
    unfold g70_j2
    simp only
    by_cases hc : c = true
    · rw [if_pos hc, if_pos hc]; rfl
    · rw [if_neg hc, if_neg hc]
      by_cases h1 : (fr b).Page ≠ at_
      · rw [if_pos h1, if_pos (.inl h1)]; rfl
      · rw [if_neg h1]
        by_cases h2 : (fr b).Page ≥ 2048
        · rw [if_pos h2, if_pos (.inr h2)]; rfl
        · rw [if_neg h2, if_neg (by rintro (h | h); exact h1 h; exact h2 h)]
  have jj1 : ∀ c : Bool, g70_j1 b at_ (fr b, ((ofbe (b.take 4) : Nat) : Int)) c = some (if c = true then (E0, 40) else if ¬ (1 ≤ (fr b).Kind ∧ (fr b).Kind ≤ 4) ∨ b.getD 5 0 ≠ 0 then (E0, 42)
      else if (fr b).Page ≠ at_ ∨ 2048 ≤ (fr b).Page then (E0, 41) else (fr b, 0)) := by
    intro c
    unfold g70_j1
    by_cases hc : c = true
    · rw [if_pos hc, if_pos hc]; rfl
    · rw [if_neg hc, if_neg hc, right_ok, Option.bind_some]
      by_cases h1 : 1 ≤ (fr b).Kind ∧ (fr b).Kind ≤ 4
      · have h5 : b[5]? = some (b.getD 5 0) := by rw [List.getD_eq_getElem?_getD, List.getElem?_eq_getElem (by omega)]; rfl
        rw [decide_eq_true h1, if_neg (by simp), ht, show (5 : Int) = ((5 : Nat) : Int) from rfl, getI_nat, h5, Option.bind_some, jj2]
        congr 1
        generalize b.getD 5 0 = z
        by_cases h2 : z = 0
        · rw [if_neg (show ¬ decide (z ≠ 0) = true by simp [h2]), if_neg (show ¬ (¬ (1 ≤ (fr b).Kind ∧ (fr b).Kind ≤ 4) ∨ z ≠ 0) by rintro (h | h); exact h h1; exact h h2)]
        · rw [if_pos (show decide (z ≠ 0) = true by simp [h2]), if_pos (show ¬ (1 ≤ (fr b).Kind ∧ (fr b).Kind ≤ 4) ∨ z ≠ 0 from .inr h2)]
      · rw [decide_eq_false h1, if_pos (by simp), jj2, if_pos rfl, if_pos (.inl h1)]
  by_cases hz : b = List.replicate 256 0
  · rw [if_pos hz, jj1, if_pos rfl]
    unfold getS
    rw [if_pos (.inl hz)]
  · rw [if_neg hz, if_pos (by rw [hl]; decide), e4, cutI_from (by omega)]
    have h0 := of_ok
    have := crc_ok (hb.drop 4) (by rw [List.length_drop]; omega) (fun s => g70_j1 b at_ (fr b, ((ofbe (b.take 4) : Nat) : Int)) (decide (((ofbe (b.take 4) : Nat) : Int) ≠ s)))
    simp only [h0, Option.bind_some] at this ⊢
    rw [this, jj1]
    congr 1
    unfold getS
    by_cases hs : ofbe (b.take 4) = crcOf (b.drop 4)
    · rw [if_neg (show ¬ decide (((ofbe (b.take 4) : Nat) : Int) ≠ ((crcOf (b.drop 4) : Nat) : Int)) = true by simp [hs]), if_neg (show ¬ (b = List.replicate 256 0 ∨ ofbe (b.take 4) ≠ crcOf (b.drop 4)) by rintro (h | h); exact hz h; exact h hs)]
    · rw [if_pos (show decide (((ofbe (b.take 4) : Nat) : Int) ≠ ((crcOf (b.drop 4) : Nat) : Int)) = true by simp; omega), if_pos (show b = List.replicate 256 0 ∨ ofbe (b.take 4) ≠ crcOf (b.drop 4) from .inr hs)]
theorem ite_decide {α : Type} {p : Prop} [Decidable p] {a b : α} : (if decide p = true then a else b) = if p then a else b := by by_cases h : p <;> simp [h]
/-- Get, as it stands where it is walked in place. -/
theorem get_inl {ρ : Type} {b : List Int} (hl : b.length = 256) (at_ : Int) (K : T_api_Frame × Int → Option ρ) : (g70 b at_).bind K =
    (g80 (List.take 256 b)).bind fun y => if List.take 256 b = List.replicate 256 (0 : Int) then K (T_api_Frame.mk 0 0 0 [], 40)
      else if (0 : Int) ≤ 4 ∧ 4 ≤ ((List.take 256 b).length : Int) ∧ ((List.take 256 b).length : Int) ≤ ((List.take 256 b).length : Int) then
        (g88 0).bind fun x1 => (cutI (List.take 256 b) 4 ((List.take 256 b).length : Int)).bind fun x2 => (g89 x1 x2).bind fun x3 => (g90 x3).bind fun x4 =>
          if y.2 ≠ x4 then K (T_api_Frame.mk 0 0 0 [], 40) else (g72 y.1.Kind).bind fun x5 => if ¬ (x5 = true) then K (T_api_Frame.mk 0 0 0 [], 42) else
            (getI (List.take 256 b) 5).bind fun x6 => if x6 ≠ 0 then K (T_api_Frame.mk 0 0 0 [], 42) else if y.1.Page ≠ at_ then K (T_api_Frame.mk 0 0 0 [], 41) else if y.1.Page ≥ 2048 then K (T_api_Frame.mk 0 0 0 [], 41) else K (y.1, 0)
      else none := by
  unfold g70
  rw [if_neg (show ¬ ((b.length : Int) ≠ 256) by rw [hl]; decide), if_pos (show 256 ≤ b.length by omega)]
  simp only [g70_j1, g70_j2, ite_bind, Option.bind_some, Option.bind_assoc, Option.bind_none, if_true, ite_decide]
theorem get_len {b : List Int} (h : b.length ≠ 256) (at_ : Int) : g70 b at_ = some (E0, 1) := by
  unfold g70
  rw [if_pos (by omega)]
  rfl
/-! ### A frame's page, got -/
theorem ofbe_one (x : Int) : ofbe [x] = x.toNat := by simp [ofbe]
theorem take_be {n v : Nat} {r : List Int} : (be n v ++ r).take n = be n v := by
  have := List.take_left (l₁ := be n v) (l₂ := r)
  rwa [be_len] at this
theorem drop_be {n v : Nat} {r : List Int} : (be n v ++ r).drop n = r := by
  have := List.drop_left (l₁ := be n v) (l₂ := r)
  rwa [be_len] at this
theorem fr_pg {f : T_api_Frame} (h : Frm f) : fr (pg f) = { f with Data := pad f } := by
  have hk := h.kind
  have hp := h.page
  have he := h.epoch
  unfold fr
  have d4 : (pg f).drop 4 = body f := by rw [pg, drop_be]
  have d6 : (pg f).drop 6 = be 2 f.Page.toNat ++ (be 8 f.Epoch.toNat ++ pad f) := by
    rw [show 6 = 4 + 2 from rfl, ← List.drop_drop, d4]
    simp [body, hd]
  have d8 : (pg f).drop 8 = be 8 f.Epoch.toNat ++ pad f := by
    rw [show 8 = 6 + 2 from rfl, ← List.drop_drop, d6, drop_be]
  have d16 : (pg f).drop 16 = pad f := by
    rw [show 16 = 8 + 8 from rfl, ← List.drop_drop, d8, drop_be]
  rw [d4, d6, d8, d16, take_be, take_be, ofbe_be, ofbe_be]
  have e1 : (body f).take 1 = [f.Kind] := rfl
  rw [e1, ofbe_one, Nat.mod_eq_of_lt (by omega), Nat.mod_eq_of_lt (by omega)]
  cases f
  simp at *
  omega
theorem pg_five {f : T_api_Frame} (h : Frm f) : (pg f).getD 5 0 = 0 := by
  rw [pg, List.getD_eq_getElem?_getD, List.getElem?_append_right (by rw [be_len]; decide), be_len]
  rfl
theorem pg_ne {f : T_api_Frame} (h : Frm f) : pg f ≠ List.replicate 256 0 := by
  intro h0
  have h1 : (pg f)[4]? = some f.Kind := by
    rw [pg, List.getElem?_append_right (by rw [be_len]; decide), be_len]
    rfl
  rw [h0] at h1
  have h2 : (List.replicate 256 (0 : Int))[4]? = some 0 := by rw [List.getElem?_replicate]; rfl
  rw [h2] at h1
  have := h.kind
  have h3 := Option.some.inj h1
  omega
theorem pg_sum {f : T_api_Frame} (h : Frm f) : ofbe ((pg f).take 4) = crcOf ((pg f).drop 4) := by
  rw [pg, take_be, drop_be, ofbe_be, Nat.mod_eq_of_lt (by exact crcOf_lt h.body8)]
theorem getS_pg {f : T_api_Frame} (h : Frm f) (at_ : Int) : getS (pg f) at_ = if f.Page = at_ then ({ f with Data := pad f }, 0) else (E0, 41) := by
  have hk := h.kind
  have hp := h.page
  unfold getS
  rw [if_neg (by rintro (h1 | h1); exact pg_ne h h1; exact h1 (pg_sum h)), if_neg (by rw [fr_pg h, pg_five h]; rintro (h1 | h1); exact h1 hk; exact h1 rfl)]
  rw [fr_pg h]
  simp only
  by_cases h1 : f.Page = at_
  · rw [if_pos h1, if_neg (by omega)]
  · rw [if_neg h1, if_pos (.inl h1)]
end Go.Proofs.YtclnddebhjjpfaaDoor
