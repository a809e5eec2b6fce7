/- The plain law of HeadChooses. -/
import Derived.Test.YtclnddebhjjpfaaDoorHL
set_option linter.unusedVariables false
set_option maxRecDepth 20000
namespace Go.Proofs.YtclnddebhjjpfaaDoor
open Go Go.SX
noncomputable def getH (e : Int) (b : List Int) : T_api_Head × Int := (g14 e b).getD (H0, 60)
theorem getH_ok {b : List Int} (hb : B8 b) (hl : b.length ≤ 1000000) (e : Int) : g14 e b = some (getH e b) ∧ g15 e b = some (getH e b) ∧ GetS e b (getH e b) := by
  obtain ⟨r, e1, e2, s⟩ := headGet_same hb hl e
  have : getH e b = r := by unfold getH; rw [e1]; rfl
  rw [this]
  exact ⟨e1, e2, s⟩
theorem getA_data {b : List Int} (hb : B8 b) (at_ : Int) : B8 (getA b at_).1.Data ∧ (getA b at_).1.Data.length ≤ b.length ∧ 0 ≤ (getA b at_).1.Epoch ∧ (getA b at_).1.Epoch < 18446744073709551616 := by
  have z : B8 E0.Data ∧ E0.Data.length ≤ b.length ∧ 0 ≤ E0.Epoch ∧ E0.Epoch < 18446744073709551616 := ⟨B8.nil, by simp [E0], by decide, by decide⟩
  have f : B8 (fr b).Data ∧ (fr b).Data.length ≤ b.length ∧ 0 ≤ (fr b).Epoch ∧ (fr b).Epoch < 18446744073709551616 := by
    refine ⟨hb.drop 16, by simp [fr], by simp only [fr]; omega, ?_⟩
    have h8 := ofbe_lt ((hb.drop 8).take 8)
    have hl : ((b.drop 8).take 8).length ≤ 8 := by rw [List.length_take]; omega
    have := Nat.pow_le_pow_right (show 0 < 256 by decide) hl
    simp only [fr]
    have e : (256 : Nat) ^ 8 = 18446744073709551616 := by decide
    omega
  unfold getA
  split
  · unfold getS
    split
    · exact z
    · split
      · exact z
      · split
        · exact z
        · exact f
  · exact z
/-- The head on a page, if it counts. -/
noncomputable def readS (pages i : Int) (b : List Int) : Option T_api_Head :=
  let f := getA b i
  let g := getH f.1.Epoch f.1.Data
  if f.2 = 0 ∧ f.1.Kind = 1 ∧ f.1.Epoch % 2 = i ∧ g.2 = 0 ∧ g.1.Pages = pages then some g.1 else none
theorem read_ok6 {b : List Int} (hb : B8 b) (hl : b.length ≤ 1000000) (pages i : Int) : ∃ h c, g30 pages i b = some (h, c) ∧ readS pages i b = if c = true then some h else none := by
  obtain ⟨d8, dl, e0, e1⟩ := getA_data hb i
  have G := getH_ok d8 (by omega) (getA b i).1.Epoch
  have P := page_ok ⟨e0, e1⟩
  have j2t (x : Int) (y : List Int) : g30_j2 pages x y true = some (H0, false) := by unfold g30_j2; rw [if_pos rfl]; rfl
  have no (h : T_api_Head) (hn : ¬ ((getA b i).2 = 0 ∧ (getA b i).1.Kind = 1 ∧ (getA b i).1.Epoch % 2 = i ∧ (getH (getA b i).1.Epoch (getA b i).1.Data).2 = 0 ∧ (getH (getA b i).1.Epoch (getA b i).1.Data).1.Pages = pages)) : readS pages i b = if false = true then some h else none := by
    unfold readS
    simp only
    rw [if_neg hn, if_neg (by decide)]
  unfold g30
  rw [getA_ok hb, Option.bind_some]
  unfold g30_j3 g30_j1
  by_cases c1 : (getA b i).2 = 0
  · rw [if_pos c1, contains_ok _ _ (by simp), Option.bind_some]
    by_cases c2 : (getA b i).1.Kind = 1
    · rw [if_neg (by simp [c2]), if_neg (by simp [c1]), P.1, Option.bind_some]
      by_cases c3 : (getA b i).1.Epoch % 2 = i
      · rw [decide_eq_false (by simp [c3])]
        unfold g30_j2
        rw [if_neg (by decide), G.1, Option.bind_some]
        by_cases c4 : (getH (getA b i).1.Epoch (getA b i).1.Data).2 = 0
        · rw [if_pos c4]
          refine ⟨_, _, rfl, ?_⟩
          by_cases c5 : (getH (getA b i).1.Epoch (getA b i).1.Data).1.Pages = pages
          · rw [if_pos (decide_eq_true c5)]
            unfold readS
            simp only
            rw [if_pos ⟨c1, c2, c3, c4, c5⟩]
          · rw [decide_eq_false c5]
            exact no _ fun h => c5 h.2.2.2.2
        · rw [if_neg c4]
          exact ⟨_, _, rfl, no _ fun h => c4 h.2.2.2.1⟩
      · rw [decide_eq_true c3, j2t]
        exact ⟨_, _, rfl, no _ fun h => c3 h.2.2.1⟩
    · rw [if_pos (by simp [c2]), if_pos (by decide), j2t]
      exact ⟨_, _, rfl, no _ fun h => c2 h.2.1⟩
  · rw [if_neg c1, if_pos c1, j2t]
    exact ⟨_, _, rfl, no _ fun h => c1 h.1⟩
theorem readS_maps {pages i : Int} {b : List Int} (hb : B8 b) (hl : b.length ≤ 1000000) {h : T_api_Head} (e : readS pages i b = some h) : h.Maps.length ≤ 2 := by
  obtain ⟨d8, dl, _⟩ := getA_data hb i
  have G := getH_ok d8 (by omega) (getA b i).1.Epoch
  unfold readS at e
  simp only at e
  split at e
  · cases e
    exact G.2.2.maps
  · cases e
/-- One step of the reference. -/
theorem rchoose_step {p0 : Int} {p1 : List (List Int)} {n i : Nat} {x : List Int} (hx : p1[i]? = some x) (hb : B8 x) (hl : x.length ≤ 1000000) (hi : i < 2) (at_ a b : Int) (m u : List Int) :
    g11_l1 p0 p1 (n + 1) at_ (i : Int) a b m u = match readS p0 i x with
      | none => g11_l1 p0 p1 n at_ ((i + 1 : Nat) : Int) a b m u
      | some h => if at_ < 0 ∨ h.Epoch > a then g11_l1 p0 p1 n (i : Int) ((i + 1 : Nat) : Int) h.Epoch h.Pages h.Maps h.User else g11_l1 p0 p1 n at_ ((i + 1 : Nat) : Int) a b m u := by
  have hlt := (List.getElem?_eq_some_iff.1 hx).1
  obtain ⟨d8, dl, e0, e1⟩ := getA_data hb (i : Int)
  have G := getH_ok d8 (by omega) (getA x i).1.Epoch
  have P := page_ok ⟨e0, e1⟩
  have ei : IntKind.i64.wrap ((i : Int) + 1) = ((i + 1 : Nat) : Int) := by rw [i64_in _ (by omega)]; omega
  have no (hn : ¬ ((getA x i).2 = 0 ∧ (getA x i).1.Kind = 1 ∧ (getA x i).1.Epoch % 2 = i ∧ (getH (getA x i).1.Epoch (getA x i).1.Data).2 = 0 ∧ (getH (getA x i).1.Epoch (getA x i).1.Data).1.Pages = p0)) : readS p0 i x = none := by
    unfold readS
    simp only
    rw [if_neg hn]
  show g11_l1B p0 p1 (g11_l1 p0 p1 n) at_ (i : Int) a b m u = _
  unfold g11_l1B g11_j2
  rw [if_pos (by omega), if_pos (decide_eq_true (by omega)), getI_nat, hx, Option.bind_some, rgetA_ok hb, Option.bind_some]
  by_cases c1 : (getA x i).2 ≠ 0
  · rw [if_pos c1, no fun h => c1 h.1]
    unfold g11_j4 g11_j3
    rw [if_pos c1, ei]
  · rw [if_neg c1]
    have c1' : (getA x i).2 = 0 := Decidable.not_not.1 c1
    obtain ⟨f, hF⟩ : ∃ f, FUEL = f + 2 := ⟨FUEL - 2, by unfold FUEL; decide⟩
    rw [hF]
    show g11_l6B p0 p1 at_ (i : Int) a b m u (g11_l1 p0 p1 n) x (getA x i) (g11_l6 p0 p1 at_ (i : Int) a b m u (g11_l1 p0 p1 n) x (getA x i) (f + 1)) 0 = _
    unfold g11_l6B
    rw [if_pos (by simp), show getI ([1] : List Int) 0 = some 1 from rfl, Option.bind_some]
    by_cases c2 : (1 : Int) = (getA x i).1.Kind
    · rw [if_pos c2]
      unfold g11_j4
      rw [if_neg (by simp), G.2.1, Option.bind_some]
      unfold g11_j5 g11_j3
      by_cases c3 : (getH (getA x i).1.Epoch (getA x i).1.Data).2 ≠ 0
      · rw [if_pos c3, if_pos rfl, no fun h => c3 h.2.2.2.1, ei]
      · have c3' := Decidable.not_not.1 c3
        have he : (getH (getA x i).1.Epoch (getA x i).1.Data).1.Epoch = (getA x i).1.Epoch := by
          rcases G.2.2 with h | ⟨_, _, h, _⟩
          · rw [h] at c3'; cases c3'
          · exact h
        rw [if_neg c3, he, P.2, Option.bind_some]
        by_cases c4 : (getA x i).1.Epoch % 2 ≠ i
        · rw [if_pos c4, if_pos rfl, no fun h => c4 h.2.2.1, ei]
        · rw [if_neg c4]
          by_cases c5 : (getH (getA x i).1.Epoch (getA x i).1.Data).1.Pages ≠ p0
          · rw [if_pos (decide_eq_true c5), no fun h => c5 h.2.2.2.2, ei]
          · have er : readS p0 i x = some (getH (getA x i).1.Epoch (getA x i).1.Data).1 := by
              unfold readS
              simp only
              rw [if_pos ⟨c1', c2.symm, Decidable.not_not.1 c4, c3', Decidable.not_not.1 c5⟩]
            rw [if_neg (by simpa using c5), er, ei]
            simp only
            rw [he]
            by_cases c6 : at_ < 0
            · rw [if_pos c6, if_pos (.inl c6)]
            · rw [if_neg c6]
              by_cases c7 : (getA x i).1.Epoch > a
              · rw [if_pos c7, if_pos (.inr c7)]
              · rw [if_neg c7, if_neg (by rintro (h | h); exact c6 h; exact c7 h)]
    · rw [if_neg c2, no fun h => c2 h.2.1.symm]
      show g11_l6B p0 p1 at_ (i : Int) a b m u (g11_l1 p0 p1 n) x (getA x i) (g11_l6 p0 p1 at_ (i : Int) a b m u (g11_l1 p0 p1 n) x (getA x i) f) 1 = _
      unfold g11_l6B
      rw [if_neg (by simp)]
      unfold g11_j4 g11_j3
      rw [if_pos (by decide), ei]
theorem choose_step {p0 : Int} {ys : List (List Int)} {n i : Nat} {x : List Int} (hx : ys[i]? = some x) (hb : B8 x) (hl : x.length ≤ 1000000) (hi : i < 2) (at_ a b : Int) (m u : List Int) :
    g10_l1 p0 ys (n + 1) at_ (i : Int) a b m u = match readS p0 i x with
      | none => g10_l1 p0 ys n at_ ((i + 1 : Nat) : Int) a b m u
      | some h => if at_ < 0 ∨ h.Epoch > a then g10_l1 p0 ys n (i : Int) ((i + 1 : Nat) : Int) h.Epoch h.Pages h.Maps h.User else g10_l1 p0 ys n at_ ((i + 1 : Nat) : Int) a b m u := by
  have hlt := (List.getElem?_eq_some_iff.1 hx).1
  have ei : IntKind.i64.wrap ((i : Int) + 1) = ((i + 1 : Nat) : Int) := by rw [i64_in _ (by omega)]; omega
  obtain ⟨h, c, e1, e2⟩ := read_ok6 hb hl p0 (i : Int)
  show g10_l1B p0 ys (g10_l1 p0 ys n) at_ (i : Int) a b m u = _
  unfold g10_l1B g10_j2
  rw [if_pos (by omega), getI_nat, hx, Option.bind_some, e1, Option.bind_some, e2, ei]
  cases c with
  | false => rw [if_pos (by simp), if_neg (by simp)]
  | true =>
    rw [if_neg (by simp), if_pos rfl]
    simp only
    by_cases c6 : at_ ≥ 0
    · rw [if_pos c6]
      by_cases c7 : h.Epoch ≤ a
      · rw [if_pos c7, if_neg (by rintro (h | h) <;> omega)]
      · rw [if_neg c7, if_pos (.inr (by omega))]
    · rw [if_neg c6, if_pos (.inl (by omega))]
theorem choose_same {p0 : Int} {p1 : List (List Int)} (hp : ∀ x ∈ p1, B8 x ∧ x.length ≤ 1000000) : ∀ (fuel i : Nat) (at_ a b : Int) (m u : List Int), i ≤ 2 → i ≤ p1.length → 2 - i < fuel → m.length ≤ 2 →
    ∃ r, g10_l1 p0 (p1.take 2) fuel at_ (i : Int) a b m u = some r ∧ g11_l1 p0 p1 fuel at_ (i : Int) a b m u = some r ∧ r.1.Maps.length ≤ 2 := by
  intro fuel
  induction fuel with
  | zero => intro i _ _ _ _ _ _ _ h; omega
  | succ n ih =>
    intro i at_ a b m u hi hil hf hm
    by_cases hlt : i < 2 ∧ i < p1.length
    · have hx := List.getElem?_eq_getElem hlt.2
      have hx2 : (p1.take 2)[i]? = some p1[i] := by rw [List.getElem?_take_of_lt hlt.1, hx]
      obtain ⟨hb, hl⟩ := hp _ (List.getElem_mem hlt.2)
      rw [choose_step hx2 hb hl hlt.1, rchoose_step hx hb hl hlt.1]
      cases er : readS p0 i p1[i] with
      | none => exact ih (i + 1) _ _ _ _ _ (by omega) (by omega) (by omega) hm
      | some h =>
        simp only
        by_cases c : at_ < 0 ∨ h.Epoch > a
        · rw [if_pos c, if_pos c]
          exact ih (i + 1) _ _ _ _ _ (by omega) (by omega) (by omega) (readS_maps hb hl er)
        · rw [if_neg c, if_neg c]
          exact ih (i + 1) _ _ _ _ _ (by omega) (by omega) (by omega) hm
    · show ∃ r, g10_l1B p0 (p1.take 2) (g10_l1 p0 (p1.take 2) n) at_ (i : Int) a b m u = some r ∧ g11_l1B p0 p1 (g11_l1 p0 p1 n) at_ (i : Int) a b m u = some r ∧ _
      have e2 : g11_l1B p0 p1 (g11_l1 p0 p1 n) at_ (i : Int) a b m u = if at_ < 0 then some (H0, 0, 60) else some (⟨a, b, m, u⟩, at_, 0) := by
        unfold g11_l1B g11_j2
        by_cases c : (i : Int) < (p1.length : Int)
        · rw [if_pos c, decide_eq_false (by omega), if_neg (by decide)]
          rfl
        · rw [if_neg c, if_neg (by decide)]
          rfl
      have e1 : g10_l1B p0 (p1.take 2) (g10_l1 p0 (p1.take 2) n) at_ (i : Int) a b m u = if at_ < 0 then some (H0, 0, 60) else some (⟨a, b, m, u⟩, at_, 0) := by
        unfold g10_l1B
        rw [if_neg (by rw [List.length_take]; omega)]
        rfl
      rw [e1, e2]
      by_cases c : at_ < 0
      · rw [if_pos c]
        exact ⟨_, rfl, rfl, by simp [H0]⟩
      · rw [if_neg c]
        exact ⟨_, rfl, rfl, hm⟩
theorem Pure.HeadChooses (p0 : Int) (p1 : List (List Int)) (h0 : (Lit.int .i64 p0).wf = true) (h1 : p1.length ≤ 9223372036854775807 ∧ ∀ b ∈ p1, b.length ≤ 9223372036854775807 ∧ ∀ x ∈ b, (Lit.int .u8 x).wf = true) : g3 p0 p1 = some true := by
  have jt : g3_j1 p0 p1 true = some true := by
    unfold g3_j1
    rw [if_pos rfl, live_ok]; rfl
  unfold g3
  rw [live_ok, Option.bind_some, if_neg (by simp)]
  by_cases hl : (p1.length : Int) > 8
  · rw [decide_eq_true hl, jt]
  · rw [decide_eq_false hl]
    unfold g3_j1
    rw [if_neg (by decide)]
    have loop : ∀ (fuel i : Nat), i ≤ p1.length → p1.length - i < fuel → (∀ x ∈ p1.take i, x.length ≤ 3000) → g3_l2 p0 p1 fuel (i : Int) = some true := by
      intro fuel
      induction fuel with
      | zero => intro i _ h; omega
      | succ n ih =>
        intro i hi hf hs
        show g3_l2B p0 p1 (g3_l2 p0 p1 n) (i : Int) = _
        unfold g3_l2B
        by_cases h : i < p1.length
        · rw [if_pos (by omega), getI_nat, List.getElem?_eq_getElem h, Option.bind_some]
          by_cases c : (p1[i].length : Int) > 3000
          · rw [if_pos c]
          · rw [if_neg c, i64_in _ (by omega), show (i : Int) + 1 = ((i + 1 : Nat) : Int) by omega]
            refine ih (i + 1) (by omega) (by omega) fun x hx => ?_
            rw [← List.take_append_getElem h] at hx
            rcases List.mem_append.1 hx with hx | hx
            · exact hs x hx
            · rw [List.mem_singleton.1 hx]; omega
        · rw [List.take_of_length_le (by omega)] at hs
          obtain ⟨r, e1, e2, e3⟩ := choose_same (p0 := p0) (p1 := p1) (fun x hx => ⟨B8.of_wf (h1.2 x hx).2, by have := hs x hx; omega⟩) FUEL 0 (-1) 0 0 [] [] (by omega) (by omega) (by unfold FUEL; omega) (by simp)
          have c1 : g10 p0 p1 = some r := by
            unfold g10
            have : cutI p1 0 (if 2 < (p1.length : Int) then 2 else (p1.length : Int)) = some (p1.take 2) := by
              by_cases c : 2 < (p1.length : Int)
              · rw [if_pos c, show (2 : Int) = ((2 : Nat) : Int) from rfl, cutI_to (by omega)]
              · rw [if_neg c, cutI_to (Nat.le_refl _), List.take_of_length_le (Nat.le_refl _), List.take_of_length_le (by omega)]
            rw [this, Option.bind_some]
            exact e1
          have c2 : g11 p0 p1 = some r := e2
          rw [if_neg (by omega), c1, c2, Option.bind_some, Option.bind_some, rheadSame_refl _ (by omega), Option.bind_some, if_pos rfl, if_pos rfl, decide_eq_true rfl]
    exact loop FUEL 0 (by omega) (by unfold FUEL; omega) (by simp)
end Go.Proofs.YtclnddebhjjpfaaDoor
