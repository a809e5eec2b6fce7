/- The plain law of HeadNewer. -/
import Derived.Test.YtclnddebhjjpfaaDoorHL
set_option linter.unusedVariables false
set_option maxRecDepth 20000
namespace Go.Proofs.YtclnddebhjjpfaaDoor
open Go Go.SX
theorem page1_ok {e : Int} (h : 0 ≤ e ∧ e < 18446744073709551616) : g25 e = some (e % 2) := by
  obtain ⟨n, rfl⟩ : ∃ n : Nat, e = (n : Int) := ⟨e.toNat, by omega⟩
  unfold g25
  rw [show (1 : Int) = ((1 : Nat) : Int) from rfl, andI_nat rfl (show n < 2 ^ IntKind.bits .u64 from (by show n < 18446744073709551616; omega)) (by decide), Nat.and_one_is_mod, i64_in _ (by omega)]
  rfl
/-- The frame of a head's page. -/
def hf (h : T_api_Head) : T_api_Frame := ⟨1, h.Epoch % 2, h.Epoch, padH h⟩
theorem hf_frm {h : T_api_Head} (k : HeadOk h) (he : 0 ≤ h.Epoch ∧ h.Epoch < 18446744073709551616) (hu : B8 h.User) : Frm (hf h) := by
  refine ⟨by show (1 : Int) ≤ 1 ∧ (1 : Int) ≤ 4; decide, by show 0 ≤ h.Epoch % 2 ∧ h.Epoch % 2 < 2048; omega, he, ?_, padH8 k hu⟩
  show (padH h).length ≤ 240
  rw [padH_len k]; omega
theorem hf_pad {h : T_api_Head} (k : HeadOk h) : ({ hf h with Data := pad (hf h) } : T_api_Frame) = hf h := by
  have : pad (hf h) = padH h := by
    unfold pad
    show padH h ++ List.replicate (240 - (padH h).length) 0 = padH h
    rw [padH_len k]; simp
  rw [this]; rfl
theorem lay6_ok {h : T_api_Head} (k : HeadOk h) (he : 0 ≤ h.Epoch ∧ h.Epoch < 18446744073709551616) (hu : B8 h.User) : g27 h = some (pg (hf h)) := by
  unfold g27 g19
  rw [headPut_ok (by have := k.few; omega), Option.bind_some, if_pos (chkH0.2 k), if_neg (by simp), page1_ok he, Option.bind_some]
  have := put_ok (f := hf h) he (padH8 k hu)
  unfold hf at this
  rw [this]
  have c : chk (⟨1, h.Epoch % 2, h.Epoch, padH h⟩ : T_api_Frame) = 0 := (hf_frm k he hu).chk0
  rw [if_pos c]
  rfl
theorem read_pg {h : T_api_Head} (k : HeadOk h) (he : 0 ≤ h.Epoch ∧ h.Epoch < 18446744073709551616) (hu : B8 h.User) : g30 h.Pages (h.Epoch % 2) (pg (hf h)) = some (h, true) := by
  have F := hf_frm k he hu
  unfold g30
  rw [get_ok F.pg8 (pg_len F.len), getS_pg F, if_pos (show (hf h).Page = h.Epoch % 2 from rfl), hf_pad k, Option.bind_some]
  rw [if_pos rfl, contains_ok _ _ (by simp), Option.bind_some, if_neg (by simp [hf])]
  unfold g30_j3 g30_j1
  rw [if_neg (by simp)]
  have p : g25 (hf h).Epoch = some (h.Epoch % 2) := page1_ok he
  rw [p, Option.bind_some, decide_eq_false (by simp)]
  unfold g30_j2
  have g : g14 (hf h).Epoch (hf h).Data = some (h, 0) := hget_pad k hu
  rw [if_neg (by decide), g, Option.bind_some, if_pos rfl, decide_eq_true rfl]
theorem read_no (P i : Int) {b : List Int} (hb : b.length ≠ 256) : g30 P i b = some (H0, false) := by
  unfold g30
  rw [get_len hb, Option.bind_some, if_neg (by decide)]
  unfold g30_j3 g30_j1
  rw [if_pos (by decide)]
  unfold g30_j2
  rw [if_pos rfl]
  rfl
theorem headSame_refl (a : T_api_Head) (hb : a.Maps.length < 4000000000000000000) : g23 a a = some true := by
  obtain ⟨c, h1, h2⟩ := headSame_ok a a hb
  rw [h1, h2.2 ⟨rfl, rfl, rfl, rfl⟩]
theorem getA_data {b : List Int} (hb : B8 b) (at_ : Int) : B8 (getA b at_).1.Data ∧ (getA b at_).1.Data.length ≤ b.length ∧ 0 ≤ (getA b at_).1.Epoch ∧ (getA b at_).1.Epoch < 18446744073709551616 := by
  have z : B8 E0.Data ∧ E0.Data.length ≤ b.length ∧ 0 ≤ E0.Epoch ∧ E0.Epoch < 18446744073709551616 := ⟨B8.nil, by simp [E0], by decide, by decide⟩
  have f : B8 (fr b).Data ∧ (fr b).Data.length ≤ b.length ∧ 0 ≤ (fr b).Epoch ∧ (fr b).Epoch < 18446744073709551616 := by
    refine ⟨hb.drop 16, by simp [fr], by simp only [fr]; omega, ?_⟩
    have h8 := ofbe_lt ((hb.drop 8).take 8)
    have hl : ((b.drop 8).take 8).length ≤ 8 := by rw [List.length_take]; omega
    have := Nat.pow_le_pow_right (show 0 < 256 by decide) hl
    simp only [fr]
    have e : (256 : Nat) ^ 8 = 18446744073709551616 := by decide
    omega
  unfold getA
  split
  · unfold getS
    split
    · exact z
    · split
      · exact z
      · split
        · exact z
        · exact f
  · exact z
theorem read_any {b : List Int} (hb : B8 b) (hl : b.length ≤ 1000000) (P i : Int) : ∃ r, g30 P i b = some r := by
  obtain ⟨d8, dl, e0, e1⟩ := getA_data hb i
  have j2 : ∀ x y c, 0 ≤ x ∧ x < 18446744073709551616 → B8 y → y.length ≤ 1000000 → ∃ r, g30_j2 P x y c = some r := fun x y c hx hy hy2 => by
    unfold g30_j2
    cases c with
    | true => rw [if_pos rfl]; exact ⟨_, rfl⟩
    | false =>
      obtain ⟨r, h, _⟩ := hget_any hy hy2 x
      rw [if_neg (by decide), h, Option.bind_some]
      split <;> exact ⟨_, rfl⟩
  have j1 : ∀ k p x y e, 0 ≤ x ∧ x < 18446744073709551616 → B8 y → y.length ≤ 1000000 → ∃ r, g30_j1 P i k p x y e = some r := fun k p x y e hx hy hy2 => by
    unfold g30_j1
    by_cases he : e ≠ 0
    · rw [if_pos he]; exact j2 x y true hx hy hy2
    · rw [if_neg he, page1_ok hx, Option.bind_some]; exact j2 x y _ hx hy hy2
  unfold g30
  rw [getA_ok hb, Option.bind_some]
  by_cases c : (getA b i).2 = 0
  · rw [if_pos c, contains_ok _ _ (by simp), Option.bind_some]
    split
    · exact j1 _ _ _ _ _ (by decide) B8.nil (by simp)
    · exact j1 _ _ _ _ _ ⟨e0, e1⟩ d8 (by omega)
  · rw [if_neg c]
    exact j1 _ _ _ _ _ ⟨e0, e1⟩ d8 (by omega)
theorem take_two {a b : List Int} : List.take ((if 2 < (([a, b] : List (List Int)).length : Int) then 2 else (([a, b] : List (List Int)).length : Int)).toNat) [a, b] = [a, b] := rfl
theorem two_le {a b : List Int} : (0 : Int) ≤ (if 2 < (([a, b] : List (List Int)).length : Int) then 2 else (([a, b] : List (List Int)).length : Int)) ∧ (if 2 < (([a, b] : List (List Int)).length : Int) then 2 else (([a, b] : List (List Int)).length : Int)) ≤ (([a, b] : List (List Int)).length : Int) := by
  rw [show (([a, b] : List (List Int)).length : Int) = 2 from rfl]; decide
section
variable {a h : T_api_Head} {A S : List Int}
/-- The older one counts, at last. -/
theorem nw_l9_0 (hm : a.Maps.length < 4000000000000000000) (h1 : g30 a.Pages 0 S = some (h, false)) (h2 : g30 a.Pages 1 A = some (a, true)) : g7_l9 a 0 [S, A] FUEL (-1) 0 0 0 [] [] = some true := by
  obtain ⟨f, hF⟩ : ∃ f, FUEL = f + 3 := ⟨FUEL - 3, by unfold FUEL; decide⟩
  rw [hF]
  show g7_l9B a 0 [S, A] (g7_l9 a 0 [S, A] (f + 2)) (-1) 0 0 0 [] [] = _
  unfold g7_l9B
  rw [take_two, if_pos (by simp), show getI [S, A] 0 = some S from rfl, Option.bind_some, h1, Option.bind_some, if_pos (by simp)]
  unfold g7_j10
  rw [show IntKind.i64.wrap (0 + 1) = 1 from by decide]
  show g7_l9B a 0 [S, A] (g7_l9 a 0 [S, A] (f + 1)) (-1) 1 0 0 [] [] = _
  unfold g7_l9B
  rw [take_two, if_pos (by simp), show getI [S, A] 1 = some A from rfl, Option.bind_some, h2, Option.bind_some, if_neg (by simp), if_neg (by decide)]
  unfold g7_j10
  rw [show IntKind.i64.wrap (1 + 1) = 2 from by decide]
  show g7_l9B a 0 [S, A] (g7_l9 a 0 [S, A] f) 1 2 a.Epoch a.Pages a.Maps a.User = _
  unfold g7_l9B
  rw [take_two, if_neg (by simp), if_neg (by decide)]
  unfold g7_j8
  have := headSame_refl a hm
  rw [if_pos rfl, if_pos (by decide), this]; rfl
theorem nw_l9_1 (hm : a.Maps.length < 4000000000000000000) (h1 : g30 a.Pages 1 S = some (h, false)) (h2 : g30 a.Pages 0 A = some (a, true)) : g7_l9 a 1 [A, S] FUEL (-1) 0 0 0 [] [] = some true := by
  obtain ⟨f, hF⟩ : ∃ f, FUEL = f + 3 := ⟨FUEL - 3, by unfold FUEL; decide⟩
  rw [hF]
  show g7_l9B a 1 [A, S] (g7_l9 a 1 [A, S] (f + 2)) (-1) 0 0 0 [] [] = _
  unfold g7_l9B
  rw [take_two, if_pos (by simp), show getI [A, S] 0 = some A from rfl, Option.bind_some, h2, Option.bind_some, if_neg (by simp), if_neg (by decide)]
  unfold g7_j10
  rw [show IntKind.i64.wrap (0 + 1) = 1 from by decide]
  show g7_l9B a 1 [A, S] (g7_l9 a 1 [A, S] (f + 1)) 0 1 a.Epoch a.Pages a.Maps a.User = _
  unfold g7_l9B
  rw [take_two, if_pos (by simp), show getI [A, S] 1 = some S from rfl, Option.bind_some, h1, Option.bind_some, if_pos (by simp)]
  unfold g7_j10
  rw [show IntKind.i64.wrap (1 + 1) = 2 from by decide]
  show g7_l9B a 1 [A, S] (g7_l9 a 1 [A, S] f) 0 2 a.Epoch a.Pages a.Maps a.User = _
  unfold g7_l9B
  rw [take_two, if_neg (by simp), if_neg (by decide)]
  unfold g7_j8
  have := headSame_refl a hm
  rw [if_pos rfl, if_pos (by decide), this]; rfl
/-- Behind what was spoilt: it counts itself, or the older one does. -/
theorem nw_l15_0 (hm : a.Maps.length < 4000000000000000000) {c : Bool} (h1 : g30 a.Pages 0 S = some (h, c)) (h2 : g30 a.Pages 1 A = some (a, true)) : g7_l15 a S 0 [S, A] FUEL (-1) 0 0 0 [] [] = some true := by
  have l9 := fun h1 => nw_l9_0 (h := h) (S := S) hm h1 h2
  obtain ⟨f, hF⟩ : ∃ f, FUEL = f + 2 := ⟨FUEL - 2, by unfold FUEL; decide⟩
  have j7 : ∀ e, g30 a.Pages 0 S = some (h, false) → g7_j7 a 0 [S, A] e = some true := fun e h1 => by
    unfold g7_j7
    rw [if_pos two_le]
    exact l9 h1
  rw [hF]
  show g7_l15B a S 0 [S, A] (g7_l15 a S 0 [S, A] (f + 1)) (-1) 0 0 0 [] [] = _
  unfold g7_l15B
  rw [if_pos (by decide), if_pos (by decide), show getI [S, A] (0 + 0) = some S from rfl, Option.bind_some, h1, Option.bind_some]
  cases c with
  | false =>
    rw [if_pos (by simp)]
    unfold g7_j16
    rw [show IntKind.i64.wrap (0 + 1) = 1 from by decide]
    show g7_l15B a S 0 [S, A] (g7_l15 a S 0 [S, A] f) (-1) 1 0 0 [] [] = _
    unfold g7_l15B
    rw [if_neg (by decide), if_pos (by decide)]
    unfold g7_j14
    rw [if_pos rfl, if_neg (by decide)]
    unfold g7_j6
    rw [if_neg (by decide)]
    exact j7 _ h1
  | true =>
    rw [if_neg (by simp), if_neg (by decide)]
    unfold g7_j16
    rw [show IntKind.i64.wrap (0 + 1) = 1 from by decide]
    show g7_l15B a S 0 [S, A] (g7_l15 a S 0 [S, A] f) 0 1 h.Epoch h.Pages h.Maps h.User = _
    unfold g7_l15B
    rw [if_neg (by decide), if_neg (by decide)]
    unfold g7_j14
    rw [if_pos rfl, if_pos rfl]
theorem nw_j6_1 (hm : a.Maps.length < 4000000000000000000) {c : Bool} (h1 : g30 a.Pages 1 S = some (h, c)) (h2 : g30 a.Pages 0 A = some (a, true)) (e : Int) : g7_j6 a S 1 [A, S] e = some true := by
  have l9 := fun h1 => nw_l9_1 (h := h) (S := S) hm h1 h2
  have n0 : g30 a.Pages 0 [] = some (H0, false) := read_no _ _ (by decide)
  obtain ⟨f, hF⟩ : ∃ f, FUEL = f + 3 := ⟨FUEL - 3, by unfold FUEL; decide⟩
  have j7 : ∀ e, g30 a.Pages 1 S = some (h, false) → g7_j7 a 1 [A, S] e = some true := fun e h1 => by
    unfold g7_j7
    rw [if_pos two_le]
    exact l9 h1
  unfold g7_j6
  rw [if_pos rfl, if_pos two_le, hF]
  show g7_l12B a S 1 [A, S] (g7_l12 a S 1 [A, S] (f + 2)) (-1) 0 0 0 [] [] = _
  unfold g7_l12B
  rw [take_two, if_pos (by simp), show getI [[], S] 0 = some [] from rfl, Option.bind_some, n0, Option.bind_some, if_pos (by simp)]
  unfold g7_j13
  rw [show IntKind.i64.wrap (0 + 1) = 1 from by decide]
  show g7_l12B a S 1 [A, S] (g7_l12 a S 1 [A, S] (f + 1)) (-1) 1 0 0 [] [] = _
  unfold g7_l12B
  rw [take_two, if_pos (by simp), show getI [[], S] 1 = some S from rfl, Option.bind_some, h1, Option.bind_some]
  cases c with
  | false =>
    rw [if_pos (by simp)]
    unfold g7_j13
    rw [show IntKind.i64.wrap (1 + 1) = 2 from by decide]
    show g7_l12B a S 1 [A, S] (g7_l12 a S 1 [A, S] f) (-1) 2 0 0 [] [] = _
    unfold g7_l12B
    rw [take_two, if_neg (by simp), if_pos (by decide)]
    unfold g7_j11
    rw [if_neg (by decide)]
    exact j7 _ h1
  | true =>
    rw [if_neg (by simp), if_neg (by decide)]
    unfold g7_j13
    rw [show IntKind.i64.wrap (1 + 1) = 2 from by decide]
    show g7_l12B a S 1 [A, S] (g7_l12 a S 1 [A, S] f) 1 2 h.Epoch h.Pages h.Maps h.User = _
    unfold g7_l12B
    rw [take_two, if_neg (by simp), if_neg (by decide)]
    unfold g7_j11
    rw [if_pos rfl]
theorem nw_l15_1 (hm : a.Maps.length < 4000000000000000000) {c d : Bool} {h' : T_api_Head} (h0 : g30 a.Pages 0 S = some (h', d)) (h1 : g30 a.Pages 1 S = some (h, c)) (h2 : g30 a.Pages 0 A = some (a, true)) : g7_l15 a S 1 [A, S] FUEL (-1) 0 0 0 [] [] = some true := by
  have j6 := nw_j6_1 hm h1 h2
  obtain ⟨f, hF⟩ : ∃ f, FUEL = f + 2 := ⟨FUEL - 2, by unfold FUEL; decide⟩
  rw [hF]
  show g7_l15B a S 1 [A, S] (g7_l15 a S 1 [A, S] (f + 1)) (-1) 0 0 0 [] [] = _
  unfold g7_l15B
  rw [if_pos (by decide), if_pos (by decide), show getI [A, S] (1 + 0) = some S from rfl, Option.bind_some, h0, Option.bind_some]
  cases d with
  | false =>
    rw [if_pos (by simp)]
    unfold g7_j16
    rw [show IntKind.i64.wrap (0 + 1) = 1 from by decide]
    show g7_l15B a S 1 [A, S] (g7_l15 a S 1 [A, S] f) (-1) 1 0 0 [] [] = _
    unfold g7_l15B
    rw [if_neg (by decide), if_pos (by decide)]
    unfold g7_j14
    rw [if_neg (by decide)]
    exact j6 _
  | true =>
    rw [if_neg (by simp), if_neg (by decide)]
    unfold g7_j16
    rw [show IntKind.i64.wrap (0 + 1) = 1 from by decide]
    show g7_l15B a S 1 [A, S] (g7_l15 a S 1 [A, S] f) 0 1 h'.Epoch h'.Pages h'.Maps h'.User = _
    unfold g7_l15B
    rw [if_neg (by decide), if_neg (by decide)]
    unfold g7_j14
    rw [if_neg (by decide)]
    exact j6 _
end
section
variable {a q p : T_api_Head} {A B S : List Int}
theorem nw_j3_0 (hm : a.Maps.length < 4000000000000000000) (hq : q.Maps.length < 4000000000000000000) (hs : B8 S) (hl : S.length ≤ 3000) (hQ : (⟨IntKind.u64.wrap (a.Epoch + 1), a.Pages, p.Maps, p.User⟩ : T_api_Head) = q) (he : a.Epoch < q.Epoch) (hP : q.Pages = a.Pages)
    (hA : g30 a.Pages 1 A = some (a, true)) (hB : g30 a.Pages 0 B = some (q, true)) : g7_j3 a p S 0 [B, A] = some true := by
  obtain ⟨⟨h, c⟩, h1⟩ := read_any hs (by omega) a.Pages 0
  have l15 := nw_l15_0 hm h1 hA
  have j5 : g7_j5 a S 0 [B, A] false = some true := by
    unfold g7_j5
    generalize g7_l15 a S 0 = Q at l15 ⊢
    rw [if_neg (by decide), show getI [B, A] 0 = some B from rfl, Option.bind_some, show setI [B, A] 0 S = some [S, A] from rfl, Option.bind_some]
    rw [if_pos ⟨by decide, by decide, by show _ ≤ ((2 : Nat) : Int); decide⟩, if_pos ⟨by decide, by decide, by decide⟩]
    exact l15
  unfold g7_j3
  obtain ⟨f, hF⟩ : ∃ f, FUEL = f + 3 := ⟨FUEL - 3, by unfold FUEL; decide⟩
  have t2 : (if 2 < (([B, A] : List (List Int)).length : Int) then 2 else (([B, A] : List (List Int)).length : Int)) = 2 := rfl
  rw [if_pos (by simp), if_pos ⟨by decide, two_le.1, two_le.2⟩, hF]
  show g7_l17B a p S 0 [B, A] (g7_l17 a p S 0 [B, A] (f + 2)) (-1) 0 0 0 [] [] = _
  unfold g7_l17B
  rw [t2, if_pos (by decide), if_pos (by decide), show getI [B, A] (0 + 0) = some B from rfl, Option.bind_some, hB, Option.bind_some, if_neg (by simp), if_neg (by decide)]
  unfold g7_j18
  rw [show IntKind.i64.wrap (0 + 1) = 1 from by decide]
  show g7_l17B a p S 0 [B, A] (g7_l17 a p S 0 [B, A] (f + 1)) 0 1 q.Epoch q.Pages q.Maps q.User = _
  unfold g7_l17B
  rw [t2, if_pos (by decide), if_pos (by decide), show getI [B, A] (0 + 1) = some A from rfl, Option.bind_some, hA, Option.bind_some, if_neg (by simp), if_pos (by decide), if_pos (show a.Epoch ≤ q.Epoch by omega)]
  unfold g7_j18
  rw [show IntKind.i64.wrap (1 + 1) = 2 from by decide]
  show g7_l17B a p S 0 [B, A] (g7_l17 a p S 0 [B, A] f) 0 2 q.Epoch q.Pages q.Maps q.User = _
  unfold g7_l17B
  rw [t2, if_neg (by decide), if_neg (by decide)]
  unfold g7_j4
  have := headSame_refl q hq
  rw [if_neg (by decide), if_neg (by decide), hQ, this, Option.bind_some, decide_eq_false (by simp)]
  exact j5
theorem nw_j3_1 (hm : a.Maps.length < 4000000000000000000) (hq : q.Maps.length < 4000000000000000000) (hs : B8 S) (hl : S.length ≤ 3000) (hQ : (⟨IntKind.u64.wrap (a.Epoch + 1), a.Pages, p.Maps, p.User⟩ : T_api_Head) = q) (he : a.Epoch < q.Epoch) (hP : q.Pages = a.Pages)
    (hA : g30 a.Pages 0 A = some (a, true)) (hB : g30 a.Pages 1 B = some (q, true)) : g7_j3 a p S 1 [A, B] = some true := by
  obtain ⟨⟨h, c⟩, h1⟩ := read_any hs (by omega) a.Pages 1
  obtain ⟨⟨h', d⟩, h2⟩ := read_any hs (by omega) a.Pages 0
  have l15 := nw_l15_1 hm h2 h1 hA
  have j5 : g7_j5 a S 1 [A, B] false = some true := by
    unfold g7_j5
    generalize g7_l15 a S 1 = Q at l15 ⊢
    rw [if_neg (by decide), show getI [A, B] 1 = some B from rfl, Option.bind_some, show setI [A, B] 1 S = some [A, S] from rfl, Option.bind_some]
    rw [if_pos ⟨by decide, by decide, by show _ ≤ ((2 : Nat) : Int); decide⟩, if_pos ⟨by decide, by decide, by decide⟩]
    exact l15
  unfold g7_j3
  obtain ⟨f, hF⟩ : ∃ f, FUEL = f + 3 := ⟨FUEL - 3, by unfold FUEL; decide⟩
  have t2 : (if 2 < (([A, B] : List (List Int)).length : Int) then 2 else (([A, B] : List (List Int)).length : Int)) = 2 := rfl
  rw [if_pos (by simp), if_pos ⟨by decide, two_le.1, two_le.2⟩, hF]
  show g7_l17B a p S 1 [A, B] (g7_l17 a p S 1 [A, B] (f + 2)) (-1) 0 0 0 [] [] = _
  unfold g7_l17B
  rw [t2, if_pos (by decide), if_pos (by decide), show getI [A, B] (0 + 0) = some A from rfl, Option.bind_some, hA, Option.bind_some, if_neg (by simp), if_neg (by decide)]
  unfold g7_j18
  rw [show IntKind.i64.wrap (0 + 1) = 1 from by decide]
  show g7_l17B a p S 1 [A, B] (g7_l17 a p S 1 [A, B] (f + 1)) 0 1 a.Epoch a.Pages a.Maps a.User = _
  unfold g7_l17B
  rw [t2, if_pos (by decide), if_pos (by decide), show getI [A, B] (0 + 1) = some B from rfl, Option.bind_some, hB, Option.bind_some, if_neg (by simp), if_pos (by decide), if_neg (show ¬ q.Epoch ≤ a.Epoch by omega)]
  unfold g7_j18
  rw [show IntKind.i64.wrap (1 + 1) = 2 from by decide]
  show g7_l17B a p S 1 [A, B] (g7_l17 a p S 1 [A, B] f) 1 2 q.Epoch q.Pages q.Maps q.User = _
  unfold g7_l17B
  rw [t2, if_neg (by decide), if_neg (by decide)]
  unfold g7_j4
  have := headSame_refl q hq
  rw [if_neg (by decide), if_neg (by decide), hQ, this, Option.bind_some, decide_eq_false (by simp)]
  exact j5
end
theorem Pure.HeadNewer (p0 p1 : T_api_Head) (p2 : List Int) (h0 : okH p0) (h1 : okH p1) (h2 : p2.length ≤ 9223372036854775807 ∧ ∀ x ∈ p2, (Lit.int .u8 x).wf = true) : g7 p0 p1 p2 = some true := by
  have jt : g7_j1 p0 p1 p2 true = some true := by
    unfold g7_j1
    rw [if_pos rfl, live_ok]; rfl
  obtain ⟨c, e, hc⟩ := short_two p0 p1
  unfold g7
  rw [live_ok, Option.bind_some, if_neg (by simp), e, Option.bind_some]
  cases c with
  | false => rw [if_pos (by simp)]; exact jt
  | true =>
    rw [if_neg (by simp)]
    by_cases hl : (p2.length : Int) > 3000
    · rw [if_pos hl]; exact jt
    · rw [if_neg hl]
      by_cases hE : p0.Epoch = 18446744073709551615
      · rw [decide_eq_true hE]; exact jt
      · rw [decide_eq_false hE]
        obtain ⟨m0, m1⟩ := hc rfl
        have he := wf_u64 h0.1
        have hu0 : B8 p0.User := B8.of_wf h0.2.2.2.2
        have hu1 : B8 p1.User := B8.of_wf h1.2.2.2.2
        have hs : B8 p2 := B8.of_wf h2.2
        have jn : g7_j2 p0 p1 p2 true = some true := by
          unfold g7_j2
          rw [if_pos rfl]
        have hw : IntKind.u64.wrap (p0.Epoch + 1) = p0.Epoch + 1 := u64_in _ ⟨by omega, by omega⟩
        obtain ⟨q, hq⟩ : ∃ q : T_api_Head, q = ⟨p0.Epoch + 1, p0.Pages, p1.Maps, p1.User⟩ := ⟨_, rfl⟩
        have qE : q.Epoch = p0.Epoch + 1 := by rw [hq]
        have qP : q.Pages = p0.Pages := by rw [hq]
        have qM : q.Maps.length ≤ 100 := by rw [hq]; exact m1
        have qU : B8 q.User := by rw [hq]; exact hu1
        have hQ : (⟨IntKind.u64.wrap (p0.Epoch + 1), p0.Pages, p1.Maps, p1.User⟩ : T_api_Head) = q := by rw [hw, hq]
        unfold g7_j1
        rw [if_neg (by decide), headCheck_ok (by omega), Option.bind_some]
        by_cases c0 : chkH p0 = 0
        · rw [if_neg (by simpa using c0), hQ, headCheck_ok (by omega), Option.bind_some]
          by_cases c1 : chkH q = 0
          · rw [decide_eq_false (by simpa using c1)]
            have k0 := chkH0.1 c0
            have k1 := chkH0.1 c1
            have heq : 0 ≤ q.Epoch ∧ q.Epoch < 18446744073709551616 := by omega
            have RA := read_pg k0 he hu0
            have RB := read_pg k1 heq qU
            rw [qP] at RB
            unfold g7_j2
            rw [if_neg (by decide), hQ, lay6_ok k0 he hu0, lay6_ok k1 heq qU, hw, Int.tmod_eq_emod_of_nonneg (by omega), i64_in _ (by omega), Option.bind_some, Option.bind_some, Option.bind_some]
            rcases (show (p0.Epoch + 1) % 2 = 0 ∧ p0.Epoch % 2 = 1 ∨ (p0.Epoch + 1) % 2 = 1 ∧ p0.Epoch % 2 = 0 by omega) with ⟨z, y⟩ | ⟨z, y⟩
            · rw [z, if_pos rfl, Option.bind_some, Option.bind_some]
              rw [y] at RA
              rw [qE, z] at RB
              exact nw_j3_0 (by omega) (by omega) hs (by omega) hQ (by omega) qP RA RB
            · rw [z, if_neg (by decide)]
              rw [y] at RA
              rw [qE, z] at RB
              exact nw_j3_1 (by omega) (by omega) hs (by omega) hQ (by omega) qP RA RB
          · rw [decide_eq_true (by simpa using c1)]; exact jn
        · rw [if_pos (by simpa using c0)]; exact jn
end Go.Proofs.YtclnddebhjjpfaaDoor
