/- The plain law of HeadBack. -/
import Derived.Test.YtclnddebhjjpfaaDoorHL
set_option linter.unusedVariables false
set_option maxRecDepth 20000
namespace Go.Proofs.YtclnddebhjjpfaaDoor
open Go Go.SX
theorem page1_ok {e : Int} (h : 0 ≤ e ∧ e < 18446744073709551616) : g25 e = some (e % 2) := by
  obtain ⟨n, rfl⟩ : ∃ n : Nat, e = (n : Int) := ⟨e.toNat, by omega⟩
  unfold g25
  rw [show (1 : Int) = ((1 : Nat) : Int) from rfl, andI_nat rfl (show n < 2 ^ IntKind.bits .u64 from (by show n < 18446744073709551616; omega)) (by decide), Nat.and_one_is_mod, i64_in _ (by omega)]
  rfl
/-- The frame of a head's page. -/
def hf (h : T_api_Head) : T_api_Frame := ⟨1, h.Epoch % 2, h.Epoch, padH h⟩
theorem hf_frm {h : T_api_Head} (k : HeadOk h) (he : 0 ≤ h.Epoch ∧ h.Epoch < 18446744073709551616) (hu : B8 h.User) : Frm (hf h) := by
  refine ⟨by show (1 : Int) ≤ 1 ∧ (1 : Int) ≤ 4; decide, by show 0 ≤ h.Epoch % 2 ∧ h.Epoch % 2 < 2048; omega, he, ?_, padH8 k hu⟩
  show (padH h).length ≤ 240
  rw [padH_len k]; omega
theorem hf_pad {h : T_api_Head} (k : HeadOk h) : ({ hf h with Data := pad (hf h) } : T_api_Frame) = hf h := by
  have : pad (hf h) = padH h := by
    unfold pad
    show padH h ++ List.replicate (240 - (padH h).length) 0 = padH h
    rw [padH_len k]; simp
  rw [this]; rfl
theorem lay6_ok {h : T_api_Head} (k : HeadOk h) (he : 0 ≤ h.Epoch ∧ h.Epoch < 18446744073709551616) (hu : B8 h.User) : g27 h = some (pg (hf h)) := by
  unfold g27 g19
  rw [headPut_ok (by have := k.few; omega), Option.bind_some, if_pos (chkH0.2 k), if_neg (by simp), page1_ok he, Option.bind_some]
  have := put_ok (f := hf h) he (padH8 k hu)
  unfold hf at this
  rw [this]
  have c : chk (⟨1, h.Epoch % 2, h.Epoch, padH h⟩ : T_api_Frame) = 0 := (hf_frm k he hu).chk0
  rw [if_pos c]
  rfl
theorem read_pg {h : T_api_Head} (k : HeadOk h) (he : 0 ≤ h.Epoch ∧ h.Epoch < 18446744073709551616) (hu : B8 h.User) : g30 h.Pages (h.Epoch % 2) (pg (hf h)) = some (h, true) := by
  have F := hf_frm k he hu
  unfold g30
  rw [get_ok F.pg8 (pg_len F.len), getS_pg F, if_pos (show (hf h).Page = h.Epoch % 2 from rfl), hf_pad k, Option.bind_some]
  rw [if_pos rfl, contains_ok _ _ (by simp), Option.bind_some, if_neg (by simp [hf])]
  unfold g30_j3 g30_j1
  rw [if_neg (by simp)]
  have p : g25 (hf h).Epoch = some (h.Epoch % 2) := page1_ok he
  rw [p, Option.bind_some, decide_eq_false (by simp)]
  unfold g30_j2
  have g : g14 (hf h).Epoch (hf h).Data = some (h, 0) := hget_pad k hu
  rw [if_neg (by decide), g, Option.bind_some, if_pos rfl, decide_eq_true rfl]
theorem read_no (P i : Int) {b : List Int} (hb : b.length ≠ 256) : g30 P i b = some (H0, false) := by
  unfold g30
  rw [get_len hb, Option.bind_some, if_neg (by decide)]
  unfold g30_j3 g30_j1
  rw [if_pos (by decide)]
  unfold g30_j2
  rw [if_pos rfl]
  rfl
theorem short_one (a : T_api_Head) : ∃ c, g16 [a] = some c ∧ (c = true → a.Maps.length ≤ 100) := by
  obtain ⟨f, hF⟩ : ∃ f, FUEL = f + 2 := ⟨FUEL - 2, by unfold FUEL; decide⟩
  unfold g16
  rw [hF]
  show ∃ c, g16_l1B [a] (g16_l1 [a] (f + 1)) 0 = some c ∧ _
  unfold g16_l1B
  rw [if_pos (by simp), show getI [a] 0 = some a from rfl, Option.bind_some]
  by_cases c1 : (a.Maps.length : Int) > 100
  · rw [if_pos c1]; exact ⟨_, rfl, fun h => by simp at h⟩
  · rw [if_neg c1]
    by_cases c2 : (a.User.length : Int) > 3000
    · rw [if_pos c2]; exact ⟨_, rfl, fun h => by simp at h⟩
    · rw [if_neg c2]
      show ∃ c, g16_l1B [a] (g16_l1 [a] f) 1 = some c ∧ _
      unfold g16_l1B
      rw [if_neg (by simp)]
      exact ⟨_, rfl, fun _ => by omega⟩
theorem headSame_refl (a : T_api_Head) (hb : a.Maps.length < 4000000000000000000) : g23 a a = some true := by
  obtain ⟨c, h1, h2⟩ := headSame_ok a a hb
  rw [h1, h2.2 ⟨rfl, rfl, rfl, rfl⟩]
/-- Behind the head's own page: what any bytes are got as. -/
theorem back_j2 {e : Int} {b : List Int} (hb : B8 b) (hl : b.length ≤ 3000) : g6_j2 e b = some true := by
  obtain ⟨r, h1, h2⟩ := hget_any hb (by omega) e
  unfold g6_j2
  rw [h1, Option.bind_some]
  rcases h2 with rfl | ⟨c0, k, c1, c2, c3⟩
  · rw [if_pos (by decide)]
    have : g23 H0 (T_api_Head.mk 0 0 [] []) = some true := headSame_refl H0 (by simp [H0])
    rw [this]; rfl
  · rw [if_neg (by simpa using c0), headPut_ok (by have := k.few; omega), Option.bind_some, if_pos (chkH0.2 k), if_pos rfl, equal_ok (padH8 k c2) hb, Option.bind_some, decide_eq_true c3]
theorem back_j3 {h : T_api_Head} (k : HeadOk h) (he : 0 ≤ h.Epoch ∧ h.Epoch < 18446744073709551616) {e : Int} {b : List Int} (hb : B8 b) (hl : b.length ≤ 3000) : g6_j3 h e b (h, 0) h.Epoch h.Pages h.Maps h.User (h.Epoch % 2) 0 = some true := by
  have hm : h.Maps.length < 4000000000000000000 := by have := k.few; omega
  unfold g6_j3
  rw [if_neg (by simp), if_neg (by simp), headSame_refl h hm, Option.bind_some, if_neg (by simp)]
  rw [Option.bind_some, if_neg (by simp), Int.tmod_eq_emod_of_nonneg (by omega), i64_in _ (by omega), decide_eq_false (by simp)]
  unfold g6_j4
  rw [if_neg (by decide)]
  exact back_j2 hb hl
theorem take_two {a b : List Int} : List.take ((if 2 < (([a, b] : List (List Int)).length : Int) then 2 else (([a, b] : List (List Int)).length : Int)).toNat) [a, b] = [a, b] := rfl
theorem back_loop {h : T_api_Head} (k : HeadOk h) (he : 0 ≤ h.Epoch ∧ h.Epoch < 18446744073709551616) (hu : B8 h.User) {e : Int} {b : List Int} (hb : B8 b) (hl : b.length ≤ 3000) {x y : List Int}
    (hxy : h.Epoch % 2 = 0 ∧ x = pg (hf h) ∧ y = [] ∨ h.Epoch % 2 = 1 ∧ x = [] ∧ y = pg (hf h)) : g6_l5 h e b (h, 0) [x, y] FUEL (-1) 0 0 0 [] [] = some true := by
  obtain ⟨f, hF⟩ : ∃ f, FUEL = f + 3 := ⟨FUEL - 3, by unfold FUEL; decide⟩
  rw [hF]
  have J := back_j3 k he hb hl (e := e)
  have R := read_pg k he hu
  have N : ∀ i, g30 h.Pages i [] = some (H0, false) := fun i => read_no _ _ (by decide)
  have l3 : ∀ a E P M U, 0 ≤ a → g6_l5 h e b (h, 0) [x, y] (f + 1) a 2 E P M U = g6_j3 h e b (h, 0) E P M U a 0 := fun a E P M U ha => by
    show g6_l5B h e b (h, 0) [x, y] (g6_l5 h e b (h, 0) [x, y] f) a 2 E P M U = _
    unfold g6_l5B
    rw [take_two, if_neg (by simp), if_neg (by omega)]
  rcases hxy with ⟨h2, rfl, rfl⟩ | ⟨h2, rfl, rfl⟩
  · rw [h2] at J R
    show g6_l5B h e b (h, 0) [pg (hf h), []] (g6_l5 h e b (h, 0) [pg (hf h), []] (f + 2)) (-1) 0 0 0 [] [] = _
    unfold g6_l5B
    rw [take_two, if_pos (by simp), show getI [pg (hf h), []] 0 = some (pg (hf h)) from rfl, Option.bind_some, R, Option.bind_some, if_neg (by simp), if_neg (by decide)]
    unfold g6_j6
    rw [show IntKind.i64.wrap (0 + 1) = 1 from by decide]
    show g6_l5B h e b (h, 0) [pg (hf h), []] (g6_l5 h e b (h, 0) [pg (hf h), []] (f + 1)) 0 1 h.Epoch h.Pages h.Maps h.User = _
    unfold g6_l5B
    rw [take_two, if_pos (by simp), show getI [pg (hf h), []] 1 = some [] from rfl, Option.bind_some, N, Option.bind_some, if_pos (by simp)]
    unfold g6_j6
    rw [show IntKind.i64.wrap (1 + 1) = 2 from by decide, l3 _ _ _ _ _ (by decide)]
    exact J
  · rw [h2] at J R
    show g6_l5B h e b (h, 0) [[], pg (hf h)] (g6_l5 h e b (h, 0) [[], pg (hf h)] (f + 2)) (-1) 0 0 0 [] [] = _
    unfold g6_l5B
    rw [take_two, if_pos (by simp), show getI [[], pg (hf h)] 0 = some [] from rfl, Option.bind_some, N, Option.bind_some, if_pos (by simp)]
    unfold g6_j6
    rw [show IntKind.i64.wrap (0 + 1) = 1 from by decide]
    show g6_l5B h e b (h, 0) [[], pg (hf h)] (g6_l5 h e b (h, 0) [[], pg (hf h)] (f + 1)) (-1) 1 0 0 [] [] = _
    unfold g6_l5B
    rw [take_two, if_pos (by simp), show getI [[], pg (hf h)] 1 = some (pg (hf h)) from rfl, Option.bind_some, R, Option.bind_some, if_neg (by simp), if_neg (by decide)]
    unfold g6_j6
    rw [show IntKind.i64.wrap (1 + 1) = 2 from by decide, l3 _ _ _ _ _ (by decide)]
    exact J
theorem Pure.HeadBack (p0 : T_api_Head) (p1 : Int) (p2 : List Int) (h0 : okH p0) (h1 : (Lit.int .u64 p1).wf = true) (h2 : p2.length ≤ 9223372036854775807 ∧ ∀ x ∈ p2, (Lit.int .u8 x).wf = true) : g6 p0 p1 p2 = some true := by
  have jt : g6_j1 p0 p1 p2 true = some true := by
    unfold g6_j1
    rw [if_pos rfl, live_ok]; rfl
  obtain ⟨c, e, hc⟩ := short_one p0
  unfold g6
  rw [live_ok, Option.bind_some, if_neg (by simp), e, Option.bind_some]
  cases c with
  | false => rw [if_pos (by simp)]; exact jt
  | true =>
    rw [if_neg (by simp)]
    by_cases hl : (p2.length : Int) > 3000
    · rw [decide_eq_true hl]; exact jt
    · rw [decide_eq_false hl]
      have hm := hc rfl
      have he := wf_u64 h0.1
      have hu : B8 p0.User := B8.of_wf h0.2.2.2.2
      have hb : B8 p2 := B8.of_wf h2.2
      unfold g6_j1
      rw [if_neg (by decide), headPut_ok (by omega), Option.bind_some]
      by_cases ck : chkH p0 = 0
      · have k := chkH0.1 ck
        rw [if_pos ck, if_pos rfl, hget_pad k hu, Option.bind_some, show repI 2 ([] : List Int) 24 = some [[], []] from rfl, Option.bind_some, page1_ok he, Option.bind_some, lay6_ok k he hu, Option.bind_some]
        rcases (show p0.Epoch % 2 = 0 ∨ p0.Epoch % 2 = 1 by omega) with z | z
        · rw [z, show andI .i64 0 1 = 0 from by decide, show getI [([] : List Int), []] 0 = some [] from rfl, Option.bind_some]
          rw [show setI [([] : List Int), []] 0 (pg (hf p0)) = some [pg (hf p0), []] from rfl, Option.bind_some, if_pos (by simp)]
          exact back_loop k he hu hb (by omega) (.inl ⟨z, rfl, rfl⟩)
        · rw [z, show andI .i64 1 1 = 1 from by decide, show getI [([] : List Int), []] 1 = some [] from rfl, Option.bind_some]
          rw [show setI [([] : List Int), []] 1 (pg (hf p0)) = some [[], pg (hf p0)] from rfl, Option.bind_some, if_pos (by simp)]
          exact back_loop k he hu hb (by omega) (.inr ⟨z, rfl, rfl⟩)
      · rw [if_neg ck, if_neg ck]
        exact back_j2 hb (by omega)
end Go.Proofs.YtclnddebhjjpfaaDoor
