/- Plain laws of layer 4: FramePuts; FrameGets. -/
import Derived.Test.YtjkghheeeiacmaaDoorPD04
import Derived.Test.YtjkghheeeiacmaaDoorPS
set_option linter.unusedVariables false
set_option maxRecDepth 20000
namespace Go.Proofs.YtjkghheeeiacmaaDoor
open Go Go.SX
theorem clone_ok {l : List Int} (h : l.length ≤ 100000) : g13 l = some l := by
  unfold g13
  rw [appI_ok (by simp; omega)]
  rfl
theorem rtrim_loop (l : List Int) (hb : l.length < 9223372036854775807) : ∀ (n fuel : Nat), n ≤ l.length → n < fuel → g33_l1 l fuel (n : Int) = some (trimZ (l.take n)) := by
  intro n
  induction n with
  | zero =>
    intro fuel hn hf
    obtain ⟨f, rfl⟩ : ∃ f, fuel = f + 1 := ⟨fuel - 1, by omega⟩
    show g33_l1B l (g33_l1 l f) _ = _
    unfold g33_l1B
    rw [if_neg (by omega), cutI_to (by omega)]
    rfl
  | succ n ih =>
    intro fuel hn hf
    obtain ⟨f, rfl⟩ : ∃ f, fuel = f + 1 := ⟨fuel - 1, by omega⟩
    show g33_l1B l (g33_l1 l f) _ = _
    unfold g33_l1B
    have e1 : IntKind.i64.wrap (((n + 1 : Nat) : Int) - 1) = ((n : Nat) : Int) := by rw [i64_in _ (by omega)]; omega
    rw [if_pos (by omega), e1, getI_nat, List.getElem?_eq_getElem (by omega), Option.bind_some, List.take_succ_eq_append_getElem (by omega)]
    by_cases h : l[n] = 0
    · rw [if_pos h, ih f (by omega) (by omega), h, trimZ_zero]
    · rw [if_neg h, trimZ_keep _ h, cutI_to (by omega), Option.bind_some, List.take_succ_eq_append_getElem (by omega)]
theorem rtrim_ok {l : List Int} (hb : l.length < 9223372036854775807) : g33 l = some (trimZ l) := by
  unfold g33
  rw [rtrim_loop l hb l.length FUEL (by omega) (by unfold FUEL; omega), List.take_length]
theorem rsame_ok {a b : T_api_Frame} (h1 : B8 a.Data) (h2 : B8 b.Data) (l1 : a.Data.length < 9223372036854775807) (l2 : b.Data.length < 9223372036854775807) : g24 a b = some (decide (sameF a b)) := by
  unfold g24 sameF g24_j1
  rw [rtrim_ok l1, rtrim_ok l2]
  simp only [Option.bind_some]
  have e := str_eq (trimZ8 h1) (trimZ8 h2)
  by_cases c1 : a.Kind = b.Kind <;> by_cases c2 : a.Page = b.Page <;> by_cases c3 : a.Epoch = b.Epoch <;> simp [c1, c2, c3, e]
theorem puts_loop (p0 : T_api_Frame) (was : List Int) (x : List Int × Int) (hb : x.1.length < 9223372036854775807) : ∀ (fuel i : Nat) (y : List Int), y.length = x.1.length → i ≤ x.1.length → x.1.length - i < fuel →
    g7_l3 p0 was x fuel (i : Int) y = (g20 p0.Data was).bind fun b => some b := by
  intro fuel
  induction fuel with
  | zero => intro i y _ _ h; omega
  | succ n ih =>
    intro i y hy hi hf
    show g7_l3B p0 was x (g7_l3 p0 was x n) (i : Int) y = _
    unfold g7_l3B
    by_cases h : i < x.1.length
    · rw [if_pos (by omega), getI_nat, List.getElem?_eq_getElem (by omega), Option.bind_some, Option.bind_some, setI_nat (by omega), Option.bind_some, i64_in _ (by omega), show (i : Int) + 1 = ((i + 1 : Nat) : Int) by omega, ih (i + 1) _ (by rw [List.length_set]; exact hy) (by omega) (by omega)]
    · rw [if_neg (by omega)]
theorem Pure.FramePuts (p0 p1 : T_api_Frame) (h0 : okF p0) (h1 : okF p1) : g7 p0 p1 = some true := by
  unfold g7
  rw [live_ok, Option.bind_some, if_neg (by simp), short_ok _ (by simp), Option.bind_some]
  unfold g7_j1
  by_cases hs : ∀ f ∈ [p0, p1], f.Data.length ≤ 3000
  · have s0 := hs p0 (by simp)
    have s1 := hs p1 (by simp)
    rw [if_neg (by simp; omega), clone_ok (by omega), Option.bind_some, h0.put, Option.bind_some, rput_ok h0.epoch h0.data, Option.bind_some, check_ok, Option.bind_some, rcheck_ok, Option.bind_some, if_neg (by simp),
      same_ok h0.data h1.data (by omega) (by omega), Option.bind_some, rsame_ok h0.data h1.data (by omega) (by omega), Option.bind_some, if_neg (by simp)]
    have hx8 : B8 (if chk p0 = 0 then (pg p0, (0 : Int)) else ([], chk p0)).1 := by
      split
      · rename_i hk; exact (frm_of hk h0.epoch h0.data).pg8
      · exact B8.nil
    have hxl : (if chk p0 = 0 then (pg p0, (0 : Int)) else ([], chk p0)).1.length ≤ 256 := by
      split
      · rename_i hk; rw [pg_len (frm_of hk h0.epoch h0.data).len]; omega
      · simp
    generalize (if chk p0 = 0 then (pg p0, (0 : Int)) else ([], chk p0)) = x at *
    rw [equal_ok hx8 hx8, Option.bind_some, if_neg (by simp)]
    unfold g7_j2
    rw [if_neg (by simp)]
    have := puts_loop p0 p0.Data x (by omega) FUEL 0 x.1 rfl (by omega) (by unfold FUEL; omega)
    rw [show ((0 : Nat) : Int) = 0 from rfl] at this
    rw [this, equal_ok h0.data h0.data, Option.bind_some]
    simp
  · rw [if_pos (by simp only [hs]; decide), live_ok]
    rfl
/-! ### FrameGets -/
theorem alike_refl (f : T_api_Frame) : g12 f f = some true := by
  unfold g12 g12_j1 g20
  rw [if_pos rfl, if_pos rfl, if_pos rfl]
  simp
theorem gets_loop (p0 : List Int) (p1 : Int) (p2 : List Int) (p3 : Int) (own : List Int) (a b c : Int) (d : List Int) (e a' b' c' : Int) (d' : List Int) (e' : Int) (hb : own.length < 9223372036854775807) : ∀ (fuel i : Nat) (y : List Int), y.length = own.length → i ≤ own.length → own.length - i < fuel →
    g5_l4 p0 p1 p2 p3 own a b c d e a' b' c' d' e' fuel (i : Int) y = g5_l4B p0 p1 p2 p3 own a b c d e a' b' c' d' e' (fun _ _ => none) (own.length : Int) [] := by
  intro fuel
  induction fuel with
  | zero => intro i y _ _ h; omega
  | succ n ih =>
    intro i y hy hi hf
    by_cases h : i < own.length
    · rw [← ih (i + 1) (y.set i (xorI .u8 (y[i]'(by omega)) 255)) (by rw [List.length_set]; exact hy) (by omega) (by omega)]
      show g5_l4B p0 p1 p2 p3 own a b c d e a' b' c' d' e' (g5_l4 p0 p1 p2 p3 own a b c d e a' b' c' d' e' n) (i : Int) y = _
      rw [g5_l4B, if_pos (by omega), getI_nat, List.getElem?_eq_getElem (by omega), Option.bind_some, Option.bind_some, setI_nat (by omega), Option.bind_some, i64_in _ (by omega), show (i : Int) + 1 = ((i + 1 : Nat) : Int) by omega]
    · obtain rfl : i = own.length := by omega
      show g5_l4B p0 p1 p2 p3 own a b c d e a' b' c' d' e' (g5_l4 p0 p1 p2 p3 own a b c d e a' b' c' d' e' n) (own.length : Int) y = _
      unfold g5_l4B
      rw [if_neg (by omega), if_neg (by omega)]
theorem gets_end {p0 : List Int} (h8 : B8 p0) (p1 : Int) {p2 : List Int} (hl2 : p2.length < 9223372036854775807) (p3 : Int) (own : List Int) (hb : own.length < 9223372036854775807) :
    g5_j3 p0 p1 p2 p3 own (getA p0 p1).1.Kind (getA p0 p1).1.Page (getA p0 p1).1.Epoch (getA p0 p1).1.Data (getA p0 p1).2
      (wantS (getA p0 p1) p2).1.Kind (wantS (getA p0 p1) p2).1.Page (wantS (getA p0 p1) p2).1.Epoch (wantS (getA p0 p1) p2).1.Data (wantS (getA p0 p1) p2).2 = some true := by
  unfold g5_j3
  have := gets_loop p0 p1 p2 p3 own (getA p0 p1).1.Kind (getA p0 p1).1.Page (getA p0 p1).1.Epoch (getA p0 p1).1.Data (getA p0 p1).2
      (wantS (getA p0 p1) p2).1.Kind (wantS (getA p0 p1) p2).1.Page (wantS (getA p0 p1) p2).1.Epoch (wantS (getA p0 p1) p2).1.Data (wantS (getA p0 p1) p2).2 hb FUEL 0 own rfl (by omega) (by unfold FUEL; omega)
  rw [show ((0 : Nat) : Int) = 0 from rfl] at this
  rw [this]
  unfold g5_l4B
  have n1 : g17 p3 = g18 p3 := rfl
  rw [if_neg (by omega), rgetA_ok h8, Option.bind_some, rwant_ok h8 _ _ hl2, Option.bind_some]
  have e1 : ∀ f : T_api_Frame, T_api_Frame.mk f.Kind f.Page f.Epoch f.Data = f := fun f => rfl
  rw [e1, e1, alike_refl, Option.bind_some, if_pos rfl, if_pos rfl, alike_refl, Option.bind_some, if_pos rfl, if_pos rfl, n1]
  have hn : ∃ s, g18 p3 = some s := by
    unfold g18
    split
    · exact ⟨_, rfl⟩
    · split
      · exact ⟨_, rfl⟩
      · split
        · exact ⟨_, rfl⟩
        · split <;> exact ⟨_, rfl⟩
  obtain ⟨s, hs⟩ := hn
  rw [hs, Option.bind_some, Option.bind_some]
  unfold g5_j5
  simp
theorem gets_second {p0 : List Int} (h8 : B8 p0) (p1 : Int) {p2 : List Int} (c1 : ¬ (p0.length : Int) > 3000) (c2 : ¬ (p2.length : Int) > 100) (p3 : Int) (hcut : cutI p0 0 (p0.length : Int) = some p0) (f : T_api_Frame) (e : Int) (hfe : getA p0 p1 = (f, e)) :
    g5_j2 p0 p1 p2 p3 p0 f.Kind f.Page f.Epoch f.Data e = some true := by
  have key : (g8 p0 p1).bind (fun r => g5_j6 p0 p1 p2 p3 p0 f.Kind f.Page f.Epoch f.Data e r.1.Kind r.1.Page r.1.Epoch r.1.Data r.2) = some true := by
    rw [getA_ok h8, Option.bind_some]
    have fin := gets_end h8 p1 (p2 := p2) (by omega) p3 p0 (by omega)
    unfold g5_j6 g5_j7
    rw [hfe] at fin ⊢
    unfold wantS at fin
    simp only at fin ⊢
    by_cases he : e = 0
    · rw [if_pos he, contains_ok _ _ (by omega), Option.bind_some]
      rw [if_pos he] at fin
      by_cases hm : f.Kind ∈ p2
      · rw [if_pos hm] at fin
        rw [if_neg (by simp [hm])]
        exact fin
      · rw [if_neg hm] at fin
        rw [if_pos (by simp [hm])]
        exact fin
    · rw [if_neg he]
      rw [if_neg he] at fin
      have h00 := getA_E0 p0 p1 (by rw [hfe]; exact he)
      rw [hfe] at h00
      simp only at h00
      rw [h00] at fin ⊢
      exact fin
  unfold g5_j2
  by_cases hl : p0.length = 256
  · rw [get_inl hl] at key
    simp only [hcut, g5_j8, g5_j9, g5_j10, Option.bind_some, if_true, ite_decide]
    rw [if_neg (show ¬ ((p0.length : Int) ≠ 256) by rw [hl]; decide), if_pos (show 256 ≤ p0.length by omega), if_pos (show 256 ≤ p0.length by omega)]
    exact key
  · rw [if_pos (show (p0.length : Int) ≠ 256 by omega)]
    rw [get_len hl, Option.bind_some] at key
    exact key
theorem Pure.FrameGets (p0 : List Int) (p1 : Int) (p2 : List Int) (p3 : Int) (h0 : p0.length ≤ 9223372036854775807 ∧ ∀ x ∈ p0, (Lit.int .u8 x).wf = true) (h1 : (Lit.int .i64 p1).wf = true)
    (h2 : p2.length ≤ 9223372036854775807 ∧ ∀ x ∈ p2, (Lit.int .i64 x).wf = true) (h3 : (Lit.int .i64 p3).wf = true) : g5 p0 p1 p2 p3 = some true := by
  have h8 := B8.of_wf h0.2
  have jt : g5_j1 p0 p1 p2 p3 true = some true := by
    unfold g5_j1
    rw [if_pos rfl, live_ok]; rfl
  unfold g5
  rw [live_ok, Option.bind_some, if_neg (by simp)]
  by_cases c1 : (p0.length : Int) > 3000
  · rw [if_pos c1, jt]
  · rw [if_neg c1]
    by_cases c2 : (p2.length : Int) > 100
    · rw [decide_eq_true c2, jt]
    · rw [decide_eq_false c2]
      unfold g5_j1
      rw [if_neg (by decide), clone_ok (by omega), Option.bind_some]
      have hcut : cutI p0 0 (p0.length : Int) = some p0 := by rw [cutI_to (Nat.le_refl _), List.take_length]
      have second := gets_second h8 p1 c1 c2 p3 hcut
      have first : (g8 p0 p1).bind (fun r => g5_j2 p0 p1 p2 p3 p0 r.1.Kind r.1.Page r.1.Epoch r.1.Data r.2) = some true := by
        obtain ⟨f, e, hfe⟩ : ∃ f e, getA p0 p1 = (f, e) := ⟨_, _, (Prod.eta _).symm⟩
        rw [getA_ok h8, Option.bind_some, hfe]
        exact second f e hfe
      by_cases hl : p0.length = 256
      · rw [get_inl hl] at first
        simp only [hcut, g5_j11, g5_j12, g5_j13, Option.bind_some, if_true, ite_decide]
        rw [if_neg (show ¬ ((p0.length : Int) ≠ 256) by rw [hl]; decide), if_pos (show 256 ≤ p0.length by omega), if_pos (show 256 ≤ p0.length by omega)]
        exact first
      · rw [if_pos (show (p0.length : Int) ≠ 256 by omega)]
        rw [get_len hl, Option.bind_some] at first
        exact first
end Go.Proofs.YtjkghheeeiacmaaDoor
