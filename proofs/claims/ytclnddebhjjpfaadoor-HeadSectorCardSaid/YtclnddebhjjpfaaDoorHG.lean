/- Plain laws of head: the head of a page's bytes. -/
import Derived.Test.YtclnddebhjjpfaaDoorHB
set_option linter.unusedVariables false
set_option maxRecDepth 20000
namespace Go.Proofs.YtclnddebhjjpfaaDoor
open Go Go.SX
theorem equal_ok {k l : List Int} (h1 : B8 k) (h2 : B8 l) : g24 k l = some (decide (k = l)) := by
  unfold g24
  congr 1
  rw [decide_eq_decide]
  exact str_eq h1 h2
/-- What may come of a page's bytes. -/
def GetS (e : Int) (b : List Int) (r : T_api_Head × Int) : Prop := r = (H0, 60) ∨ (r.2 = 0 ∧ HeadOk r.1 ∧ r.1.Epoch = e ∧ B8 r.1.User ∧ padH r.1 = b)
theorem hget_end {b : List Int} (hb : B8 b) {h : T_api_Head} (hu : B8 h.User) (hm : h.Maps.length ≤ 1000) : ∃ res, ((g17 h).bind fun x => if x.2 ≠ 0 then some (H0, 60) else (g24 x.1 b).bind fun y => if ¬ (y = true) then some (H0, 60) else some (h, 0)) = some res ∧ GetS h.Epoch b res := by
  rw [headPut_ok (by omega), Option.bind_some]
  by_cases c : chkH h = 0
  · have k := chkH0.1 c
    rw [if_pos c, if_neg (by simp), equal_ok (padH8 k hu) hb, Option.bind_some]
    by_cases e : padH h = b
    · rw [if_neg (by simp [e])]
      exact ⟨_, rfl, .inr ⟨rfl, k, rfl, hu, e⟩⟩
    · rw [if_pos (by simp [e])]
      exact ⟨_, rfl, .inl rfl⟩
  · rw [if_neg c, if_pos c]
    exact ⟨_, rfl, .inl rfl⟩
theorem hget_any_loop {b : List Int} (hb : B8 b) (e : Int) (x1 x2 : Int × T_pack_Reader) : ∀ (fuel i : Nat) (rb : List Int) (re : Int) (rm : Bool) (acc : List Int), RdOk ⟨rb, re, rm⟩ → acc.length = i → i ≤ 3 → 3 - i < fuel →
    ∃ res, g14_l1 e b x1 x2 fuel (i : Int) rb re rm acc = some res ∧ GetS e b res := by
  intro fuel
  induction fuel with
  | zero => intro i _ _ _ _ _ _ _ h; omega
  | succ n ih =>
    intro i rb re rm acc hr ha hi hf
    show ∃ res, g14_l1B e b x1 x2 (g14_l1 e b x1 x2 n) (i : Int) rb re rm acc = some res ∧ _
    unfold g14_l1B
    by_cases hlt : (i : Int) < (if 3 < x2.1 then 3 else x2.1)
    · have h3 : i < 3 := by split at hlt <;> omega
      obtain ⟨v, r', e1, h1, h2⟩ := U16_any hr
      rw [if_pos hlt, e1, Option.bind_some, appI_ok (by simp; omega), Option.bind_some, u8_in _ (by omega), show (i : Int) + 1 = ((i + 1 : Nat) : Int) by omega]
      exact ih (i + 1) _ _ _ _ h1 (by simp; omega) (by omega) (by omega)
    · obtain ⟨t, r', e1, h1, h2, h3⟩ := Text_any hr (most := 32) (by omega)
      rw [if_neg hlt, show (32 : Int) = ((32 : Nat) : Int) from rfl, e1, Option.bind_some, Err_ok h1.made, Option.bind_some]
      by_cases c : r'.err ≠ 0
      · rw [if_pos c]
        exact ⟨_, rfl, .inl rfl⟩
      · rw [if_neg c]
        exact hget_end hb (h := ⟨e, IntKind.i64.wrap x1.1, acc, t⟩) h2 (by show acc.length ≤ 1000; omega)
theorem hget_any {b : List Int} (hb : B8 b) (hl : b.length ≤ 1000000) (e : Int) : ∃ r, g14 e b = some r ∧ GetS e b r := by
  unfold g14
  obtain ⟨v1, r1, e1, h1, _⟩ := U16_any (r := ⟨b, 0, true⟩) ⟨rfl, hb, hl⟩
  obtain ⟨v2, r2, e2, h2, _⟩ := U8_any h1
  rw [read_ok (by omega), Option.bind_some, U16_own, e1, Option.bind_some, e2, Option.bind_some]
  exact hget_any_loop hb e _ _ FUEL 0 _ _ _ [] h2 rfl (by omega) (by unfold FUEL; omega)
theorem hget_pad_loop {h : T_api_Head} (k : HeadOk h) (hu : B8 h.User) (x1 x2 : Int × T_pack_Reader) (h1 : x1.1 = h.Pages) (h2 : x2.1 = (h.Maps.length : Int)) (z : List Int) (hz : B8 z) : ∀ (fuel i : Nat), i ≤ h.Maps.length → h.Maps.length - i < fuel →
    g14_l1 h.Epoch (padH h) x1 x2 fuel (i : Int) ((h.Maps.drop i).flatMap (fun m => be 2 m.toNat) ++ (tx h.User ++ z)) 0 true (h.Maps.take i) = some (h, 0) := by
  have hf2 := k.few
  have hp1 := k.1
  have hp2 := k.2.1
  have hu32 := k.2.2.2.2
  intro fuel
  induction fuel with
  | zero => intro i _ h; omega
  | succ n ih =>
    intro i hi hf
    show g14_l1B h.Epoch (padH h) x1 x2 (g14_l1 h.Epoch (padH h) x1 x2 n) (i : Int) _ 0 true _ = _
    unfold g14_l1B
    rw [h1, h2, if_neg (show ¬ (3 : Int) < (h.Maps.length : Int) by omega)]
    by_cases hlt : i < h.Maps.length
    · have hm := good_mem _ _ k.2.2.2.1 h.Maps[i] (List.getElem_mem hlt)
      obtain ⟨m, e⟩ : ∃ m : Nat, h.Maps[i] = (m : Int) := ⟨h.Maps[i].toNat, by omega⟩
      have hB : B8 ((h.Maps.drop (i + 1)).flatMap (fun m => be 2 m.toNat) ++ (tx h.User ++ z)) := (flat8 _).append ((tx_8 hu (by omega)).append hz)
      rw [if_pos (by omega), List.drop_eq_getElem_cons hlt, List.flatMap_cons, e, Int.toNat_natCast, List.append_assoc (be 2 m), U16_ok (by omega) hB, Option.bind_some, i64_in _ (by omega), appI_ok (by simp; omega), Option.bind_some, u8_in _ (by omega), show (i : Int) + 1 = ((i + 1 : Nat) : Int) by omega]
      have := ih (i + 1) (by omega) (by omega)
      rw [← List.take_append_getElem hlt, e] at this
      exact this
    · rw [if_neg (by omega), List.drop_of_length_le (by omega), List.flatMap_nil, List.nil_append, show (32 : Int) = ((32 : Nat) : Int) from rfl, Text_ok (by omega) (by omega), Option.bind_some, Err_ok rfl, Option.bind_some, if_neg (by simp), i64_in _ (by omega), List.take_of_length_le (by omega)]
      rw [headPut_ok (by show h.Maps.length < _; omega), Option.bind_some, show (⟨h.Epoch, h.Pages, h.Maps, h.User⟩ : T_api_Head) = h from rfl, if_pos (chkH0.2 k), if_neg (by simp), equal_ok (padH8 k hu) (padH8 k hu), Option.bind_some, if_neg (by simp)]
theorem hget_pad {h : T_api_Head} (k : HeadOk h) (hu : B8 h.User) : g14 h.Epoch (padH h) = some (h, 0) := by
  have hf2 := k.few
  have hp1 := k.1
  have hp2 := k.2.1
  have hu32 := k.2.2.2.2
  obtain ⟨P, e⟩ : ∃ P : Nat, h.Pages = (P : Int) := ⟨h.Pages.toNat, by omega⟩
  have ep : padH h = be 2 P ++ ((h.Maps.length : Int) :: (h.Maps.flatMap (fun m => be 2 m.toNat) ++ (tx h.User ++ List.replicate (240 - (preH h).length) 0))) := by
    unfold padH preH
    rw [e, Int.toNat_natCast]
    simp only [List.append_assoc, List.cons_append]
  have hB : B8 (h.Maps.flatMap (fun m => be 2 m.toNat) ++ (tx h.User ++ List.replicate (240 - (preH h).length) 0)) := (flat8 _).append ((tx_8 hu (by omega)).append (B8.rep _))
  unfold g14
  have L := fun x1 x2 h1 h2 => hget_pad_loop k hu x1 x2 h1 h2 (List.replicate (240 - (preH h).length) 0) (B8.rep _) FUEL 0 (by omega) (by unfold FUEL; omega)
  rw [List.drop_zero, List.take_zero] at L
  rw [read_ok (by rw [padH_len k]; omega), Option.bind_some, U16_own]
  rw [show (⟨padH h, 0, true⟩ : T_pack_Reader) = ⟨be 2 P ++ ((h.Maps.length : Int) :: (h.Maps.flatMap (fun m => be 2 m.toNat) ++ (tx h.User ++ List.replicate (240 - (preH h).length) 0))), 0, true⟩ by rw [ep], U16_ok (by omega) (B8.cons (by omega) hB), Option.bind_some, U8_ok (by omega) hB, Option.bind_some]
  exact L _ _ (by show (P : Int) = _; rw [e]) rfl
/-! ### The reference's -/
theorem at_ok {b : List Int} (hb : B8 b) {i : Nat} (h : i < b.length) : ∃ x : Nat, getI b (i : Int) = some (x : Int) ∧ x < 256 := by
  have := hb.get (List.getElem?_eq_getElem h)
  exact ⟨b[i].toNat, by rw [getI_nat, List.getElem?_eq_getElem h]; congr 1; omega, by omega⟩
theorem be_two {v : Nat} (hv : v < 65536) : be 2 v = [((v / 256 : Nat) : Int), ((v % 256 : Nat) : Int)] := by
  simp only [be, List.nil_append, List.cons_append]
  rw [Nat.mod_eq_of_lt (show v / 256 < 256 by omega)]
end Go.Proofs.YtclnddebhjjpfaaDoor
