/- The plain laws of HeadPuts, HeadGets. -/
import Derived.Test.YtclnddebhjjpfaaDoorHG
set_option linter.unusedVariables false
set_option maxRecDepth 20000
namespace Go.Proofs.YtclnddebhjjpfaaDoor
open Go Go.SX
def okH (h : T_api_Head) : Prop := (Lit.int .u64 h.Epoch).wf = true ∧ (Lit.int .i64 h.Pages).wf = true ∧ (h.Maps.length ≤ 9223372036854775807 ∧ ∀ x ∈ h.Maps, (Lit.int .i64 x).wf = true) ∧ (h.User.length ≤ 9223372036854775807 ∧ ∀ x ∈ h.User, (Lit.int .u8 x).wf = true)
theorem wf_u64 {n : Int} (h : (Lit.int .u64 n).wf = true) : 0 ≤ n ∧ n < 18446744073709551616 := by
  simp [Lit.wf, IntKind.min, IntKind.max, IntKind.signed, IntKind.bits] at h
  omega
theorem live_ok : g9 = some true := by kernel_rfl
/-! ### Same -/
def SameH (a b : T_api_Head) : Prop := a.Epoch = b.Epoch ∧ a.Pages = b.Pages ∧ a.Maps = b.Maps ∧ (strOfNums a.User).toList = (strOfNums b.User).toList
theorem rsame_loop (a b : T_api_Head) (hl : a.Maps.length = b.Maps.length) (hb : a.Maps.length < 4000000000000000000) : ∀ (fuel i : Nat), i ≤ a.Maps.length → a.Maps.length - i < fuel → g12_l2 a b fuel (i : Int) = some (decide (a.Maps.drop i = b.Maps.drop i)) := by
  intro fuel
  induction fuel with
  | zero => intro i _ h; omega
  | succ n ih =>
    intro i hi hf
    show g12_l2B a b (g12_l2 a b n) (i : Int) = _
    unfold g12_l2B
    by_cases h : i < a.Maps.length
    · rw [if_pos (by omega), getI_nat, List.getElem?_eq_getElem h, Option.bind_some, getI_nat, List.getElem?_eq_getElem (by omega), Option.bind_some, List.drop_eq_getElem_cons h, List.drop_eq_getElem_cons (show i < b.Maps.length by omega)]
      by_cases e : a.Maps[i] = b.Maps[i]'(by omega)
      · rw [if_neg (by simp [e]), i64_in _ (by omega), show (i : Int) + 1 = ((i + 1 : Nat) : Int) by omega, ih (i + 1) (by omega) (by omega)]
        congr 1
        rw [decide_eq_decide, e]
        exact ⟨fun h => by rw [h], fun h => (List.cons.inj h).2⟩
      · rw [if_pos e]
        congr 1
        rw [eq_comm, decide_eq_false_iff_not]
        exact fun h => e (List.cons.inj h).1
    · rw [if_neg (by omega), List.drop_of_length_le (by omega), List.drop_of_length_le (by omega)]
      rfl
theorem rheadSame_ok (a b : T_api_Head) (hb : a.Maps.length < 4000000000000000000) : ∃ c, g12 a b = some c ∧ (c = true ↔ SameH a b) := by
  unfold g12 g12_j1
  by_cases c1 : a.Epoch = b.Epoch
  · rw [if_neg (by simp [c1])]
    by_cases c2 : a.Pages = b.Pages
    · rw [if_neg (by simp [c2])]
      by_cases c3 : a.Maps.length = b.Maps.length
      · rw [if_neg (by simp [c3])]
        by_cases c4 : (strOfNums a.User).toList = (strOfNums b.User).toList
        · rw [if_neg (by simp [c4])]
          have := rsame_loop a b c3 hb FUEL 0 (by omega) (by unfold FUEL; omega)
          rw [List.drop_zero, List.drop_zero] at this
          refine ⟨_, this, ?_⟩
          rw [decide_eq_true_iff]
          exact ⟨fun h => ⟨c1, c2, h, c4⟩, fun h => h.2.2.1⟩
        · rw [if_pos (by simpa using c4)]
          exact ⟨_, rfl, ⟨fun h => by simp at h, fun h => absurd h.2.2.2 c4⟩⟩
      · rw [if_pos (by omega), if_pos rfl]
        exact ⟨_, rfl, ⟨fun h => by simp at h, fun h => absurd (by rw [h.2.2.1]) c3⟩⟩
    · rw [if_pos c2, if_pos rfl]
      exact ⟨_, rfl, ⟨fun h => by simp at h, fun h => absurd h.2.1 c2⟩⟩
  · rw [if_pos c1, if_pos rfl]
    exact ⟨_, rfl, ⟨fun h => by simp at h, fun h => absurd h.1 c1⟩⟩
theorem rheadSame_refl (a : T_api_Head) (hb : a.Maps.length < 4000000000000000000) : g12 a a = some true := by
  obtain ⟨c, h1, h2⟩ := rheadSame_ok a a hb
  rw [h1, h2.2 ⟨rfl, rfl, rfl, rfl⟩]
/-! ### HeadPuts -/
theorem short_two (a b : T_api_Head) : ∃ c, g16 [a, b] = some c ∧ (c = true → a.Maps.length ≤ 100 ∧ b.Maps.length ≤ 100) := by
  obtain ⟨f, hF⟩ : ∃ f, FUEL = f + 3 := ⟨FUEL - 3, by unfold FUEL; decide⟩
  unfold g16
  rw [hF]
  show ∃ c, g16_l1B [a, b] (g16_l1 [a, b] (f + 2)) 0 = some c ∧ _
  unfold g16_l1B
  rw [if_pos (by simp), show getI [a, b] 0 = some a from rfl, Option.bind_some]
  by_cases c1 : (a.Maps.length : Int) > 100
  · rw [if_pos c1]; exact ⟨_, rfl, fun h => by simp at h⟩
  · rw [if_neg c1]
    by_cases c2 : (a.User.length : Int) > 3000
    · rw [if_pos c2]; exact ⟨_, rfl, fun h => by simp at h⟩
    · rw [if_neg c2]
      show ∃ c, g16_l1B [a, b] (g16_l1 [a, b] (f + 1)) 1 = some c ∧ _
      unfold g16_l1B
      rw [if_pos (by simp), show getI [a, b] 1 = some b from rfl, Option.bind_some]
      by_cases c3 : (b.Maps.length : Int) > 100
      · rw [if_pos c3]; exact ⟨_, rfl, fun h => by simp at h⟩
      · rw [if_neg c3]
        by_cases c4 : (b.User.length : Int) > 3000
        · rw [if_pos c4]; exact ⟨_, rfl, fun h => by simp at h⟩
        · rw [if_neg c4]
          show ∃ c, g16_l1B [a, b] (g16_l1 [a, b] f) 2 = some c ∧ _
          unfold g16_l1B
          rw [if_neg (by simp)]
          exact ⟨_, rfl, fun _ => by omega⟩
/-! ### HeadGets -/
theorem clone_ok {l : List Int} (h : l.length ≤ 100000) : g13 l = some l := by
  unfold g13
  rw [appI_ok (by simp; omega)]
  rfl
theorem GetS.maps {e : Int} {b : List Int} {r : T_api_Head × Int} (h : GetS e b r) : r.1.Maps.length ≤ 2 := by
  rcases h with rfl | ⟨_, k, _⟩
  · simp [H0]
  · exact k.few.2
end Go.Proofs.YtclnddebhjjpfaaDoor
