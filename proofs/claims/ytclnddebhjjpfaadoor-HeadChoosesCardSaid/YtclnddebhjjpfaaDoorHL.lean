/- The plain laws of HeadPuts, HeadGets. -/
import Derived.Test.YtclnddebhjjpfaaDoorHG
set_option linter.unusedVariables false
set_option maxRecDepth 20000
namespace Go.Proofs.YtclnddebhjjpfaaDoor
open Go Go.SX
def okH (h : T_api_Head) : Prop := (Lit.int .u64 h.Epoch).wf = true ∧ (Lit.int .i64 h.Pages).wf = true ∧ (h.Maps.length ≤ 9223372036854775807 ∧ ∀ x ∈ h.Maps, (Lit.int .i64 x).wf = true) ∧ (h.User.length ≤ 9223372036854775807 ∧ ∀ x ∈ h.User, (Lit.int .u8 x).wf = true)
theorem wf_u64 {n : Int} (h : (Lit.int .u64 n).wf = true) : 0 ≤ n ∧ n < 18446744073709551616 := by
  simp [Lit.wf, IntKind.min, IntKind.max, IntKind.signed, IntKind.bits] at h
  omega
theorem live_ok : g9 = some true := by kernel_rfl
theorem page_ok {e : Int} (h : 0 ≤ e ∧ e < 18446744073709551616) : g25 e = some (e % 2) ∧ g26 e = some (e % 2) := by
  obtain ⟨n, rfl⟩ : ∃ n : Nat, e = (n : Int) := ⟨e.toNat, by omega⟩
  unfold g25 g26
  constructor
  · rw [show (1 : Int) = ((1 : Nat) : Int) from rfl, andI_nat rfl (show n < 2 ^ IntKind.bits .u64 from (by show n < 18446744073709551616; omega)) (by decide), Nat.and_one_is_mod, i64_in _ (by omega)]
    rfl
  · rw [Int.tmod_eq_emod_of_nonneg (by omega), i64_in _ (by omega)]
/-! ### Same -/
def SameH (a b : T_api_Head) : Prop := a.Epoch = b.Epoch ∧ a.Pages = b.Pages ∧ a.Maps = b.Maps ∧ (strOfNums a.User).toList = (strOfNums b.User).toList
theorem slEq_loop (k l : List Int) (hl : k.length = l.length) (hb : k.length < 4000000000000000000) : ∀ (fuel i : Nat), i ≤ k.length → k.length - i < fuel → g44_l1 k l fuel (i : Int) = some (decide (k.drop i = l.drop i)) := by
  intro fuel
  induction fuel with
  | zero => intro i _ h; omega
  | succ n ih =>
    intro i hi hf
    show g44_l1B k l (g44_l1 k l n) (i : Int) = _
    unfold g44_l1B
    by_cases h : i < k.length
    · rw [if_pos (by omega), getI_nat, List.getElem?_eq_getElem h, Option.bind_some, getI_nat, List.getElem?_eq_getElem (by omega), Option.bind_some, List.drop_eq_getElem_cons h, List.drop_eq_getElem_cons (show i < l.length by omega)]
      by_cases e : k[i] = l[i]'(by omega)
      · rw [if_neg (by simp [e]), i64_in _ (by omega), show (i : Int) + 1 = ((i + 1 : Nat) : Int) by omega, ih (i + 1) (by omega) (by omega)]
        congr 1
        rw [decide_eq_decide, e]
        exact ⟨fun h => by rw [h], fun h => (List.cons.inj h).2⟩
      · rw [if_pos e]
        congr 1
        rw [eq_comm, decide_eq_false_iff_not]
        exact fun h => e (List.cons.inj h).1
    · rw [if_neg (by omega), List.drop_of_length_le (by omega), List.drop_of_length_le (by omega)]
      rfl
theorem slEq_ok (k l : List Int) (hb : k.length < 4000000000000000000) : g44 k l = some (decide (k = l)) := by
  unfold g44
  by_cases h : k.length = l.length
  · rw [if_neg (by omega)]
    have := slEq_loop k l h hb FUEL 0 (by omega) (by unfold FUEL; omega)
    rw [List.drop_zero, List.drop_zero] at this
    exact this
  · rw [if_pos (by omega)]
    congr 1
    rw [eq_comm, decide_eq_false_iff_not]
    exact fun e => h (by rw [e])
theorem headSame_ok (a b : T_api_Head) (hb : a.Maps.length < 4000000000000000000) : ∃ c, g23 a b = some c ∧ (c = true ↔ SameH a b) := by
  unfold g23 g23_j1
  by_cases c1 : a.Epoch = b.Epoch
  · rw [if_pos c1]
    by_cases c2 : a.Pages = b.Pages
    · rw [if_pos c2, slEq_ok _ _ hb, Option.bind_some]
      by_cases c3 : a.Maps = b.Maps
      · rw [if_pos (decide_eq_true c3)]
        unfold g24
        refine ⟨_, rfl, ?_⟩
        rw [decide_eq_true_iff]
        exact ⟨fun h => ⟨c1, c2, c3, h⟩, fun h => h.2.2.2⟩
      · rw [if_neg (by simpa using c3)]
        exact ⟨_, rfl, ⟨fun h => by simp at h, fun h => absurd h.2.2.1 c3⟩⟩
    · rw [if_neg c2]
      exact ⟨_, rfl, ⟨fun h => by simp at h, fun h => absurd h.2.1 c2⟩⟩
  · rw [if_neg c1]
    exact ⟨_, rfl, ⟨fun h => by simp at h, fun h => absurd h.1 c1⟩⟩
theorem rsame_loop (a b : T_api_Head) (hl : a.Maps.length = b.Maps.length) (hb : a.Maps.length < 4000000000000000000) : ∀ (fuel i : Nat), i ≤ a.Maps.length → a.Maps.length - i < fuel → g12_l2 a b fuel (i : Int) = some (decide (a.Maps.drop i = b.Maps.drop i)) := by
  intro fuel
  induction fuel with
  | zero => intro i _ h; omega
  | succ n ih =>
    intro i hi hf
    show g12_l2B a b (g12_l2 a b n) (i : Int) = _
    unfold g12_l2B
    by_cases h : i < a.Maps.length
    · rw [if_pos (by omega), getI_nat, List.getElem?_eq_getElem h, Option.bind_some, getI_nat, List.getElem?_eq_getElem (by omega), Option.bind_some, List.drop_eq_getElem_cons h, List.drop_eq_getElem_cons (show i < b.Maps.length by omega)]
      by_cases e : a.Maps[i] = b.Maps[i]'(by omega)
      · rw [if_neg (by simp [e]), i64_in _ (by omega), show (i : Int) + 1 = ((i + 1 : Nat) : Int) by omega, ih (i + 1) (by omega) (by omega)]
        congr 1
        rw [decide_eq_decide, e]
        exact ⟨fun h => by rw [h], fun h => (List.cons.inj h).2⟩
      · rw [if_pos e]
        congr 1
        rw [eq_comm, decide_eq_false_iff_not]
        exact fun h => e (List.cons.inj h).1
    · rw [if_neg (by omega), List.drop_of_length_le (by omega), List.drop_of_length_le (by omega)]
      rfl
theorem rheadSame_ok (a b : T_api_Head) (hb : a.Maps.length < 4000000000000000000) : ∃ c, g12 a b = some c ∧ (c = true ↔ SameH a b) := by
  unfold g12 g12_j1
  by_cases c1 : a.Epoch = b.Epoch
  · rw [if_neg (by simp [c1])]
    by_cases c2 : a.Pages = b.Pages
    · rw [if_neg (by simp [c2])]
      by_cases c3 : a.Maps.length = b.Maps.length
      · rw [if_neg (by simp [c3])]
        by_cases c4 : (strOfNums a.User).toList = (strOfNums b.User).toList
        · rw [if_neg (by simp [c4])]
          have := rsame_loop a b c3 hb FUEL 0 (by omega) (by unfold FUEL; omega)
          rw [List.drop_zero, List.drop_zero] at this
          refine ⟨_, this, ?_⟩
          rw [decide_eq_true_iff]
          exact ⟨fun h => ⟨c1, c2, h, c4⟩, fun h => h.2.2.1⟩
        · rw [if_pos (by simpa using c4)]
          exact ⟨_, rfl, ⟨fun h => by simp at h, fun h => absurd h.2.2.2 c4⟩⟩
      · rw [if_pos (by omega), if_pos rfl]
        exact ⟨_, rfl, ⟨fun h => by simp at h, fun h => absurd (by rw [h.2.2.1]) c3⟩⟩
    · rw [if_pos c2, if_pos rfl]
      exact ⟨_, rfl, ⟨fun h => by simp at h, fun h => absurd h.2.1 c2⟩⟩
  · rw [if_pos c1, if_pos rfl]
    exact ⟨_, rfl, ⟨fun h => by simp at h, fun h => absurd h.1 c1⟩⟩
theorem rheadSame_refl (a : T_api_Head) (hb : a.Maps.length < 4000000000000000000) : g12 a a = some true := by
  obtain ⟨c, h1, h2⟩ := rheadSame_ok a a hb
  rw [h1, h2.2 ⟨rfl, rfl, rfl, rfl⟩]
/-! ### HeadPuts -/
theorem short_two (a b : T_api_Head) : ∃ c, g16 [a, b] = some c ∧ (c = true → a.Maps.length ≤ 100 ∧ b.Maps.length ≤ 100) := by
  obtain ⟨f, hF⟩ : ∃ f, FUEL = f + 3 := ⟨FUEL - 3, by unfold FUEL; decide⟩
  unfold g16
  rw [hF]
  show ∃ c, g16_l1B [a, b] (g16_l1 [a, b] (f + 2)) 0 = some c ∧ _
  unfold g16_l1B
  rw [if_pos (by simp), show getI [a, b] 0 = some a from rfl, Option.bind_some]
  by_cases c1 : (a.Maps.length : Int) > 100
  · rw [if_pos c1]; exact ⟨_, rfl, fun h => by simp at h⟩
  · rw [if_neg c1]
    by_cases c2 : (a.User.length : Int) > 3000
    · rw [if_pos c2]; exact ⟨_, rfl, fun h => by simp at h⟩
    · rw [if_neg c2]
      show ∃ c, g16_l1B [a, b] (g16_l1 [a, b] (f + 1)) 1 = some c ∧ _
      unfold g16_l1B
      rw [if_pos (by simp), show getI [a, b] 1 = some b from rfl, Option.bind_some]
      by_cases c3 : (b.Maps.length : Int) > 100
      · rw [if_pos c3]; exact ⟨_, rfl, fun h => by simp at h⟩
      · rw [if_neg c3]
        by_cases c4 : (b.User.length : Int) > 3000
        · rw [if_pos c4]; exact ⟨_, rfl, fun h => by simp at h⟩
        · rw [if_neg c4]
          show ∃ c, g16_l1B [a, b] (g16_l1 [a, b] f) 2 = some c ∧ _
          unfold g16_l1B
          rw [if_neg (by simp)]
          exact ⟨_, rfl, fun _ => by omega⟩
theorem headLay_same {h : T_api_Head} (hm : h.Maps.length < 4000000000000000000) (he : 0 ≤ h.Epoch ∧ h.Epoch < 18446744073709551616) (hu : B8 h.User) : ∃ r, g19 h = some r ∧ g20 h = some r := by
  unfold g19 g20
  rw [headPut_ok hm, rheadPut_ok, Option.bind_some, Option.bind_some]
  by_cases c : chkH h = 0
  · rw [if_pos c, if_neg (by simp), if_neg (by simp), (page_ok he).1, (page_ok he).2, Option.bind_some, Option.bind_some]
    have h8 := padH8 (chkH0.1 c) hu
    rw [put_ok (f := ⟨1, h.Epoch % 2, h.Epoch, padH h⟩) he h8, rput_ok (f := ⟨1, h.Epoch % 2, h.Epoch, padH h⟩) he h8]
    exact ⟨_, rfl, rfl⟩
  · rw [if_neg c, if_pos c, if_pos c]
    exact ⟨_, rfl, rfl⟩
theorem Pure.HeadPuts (p0 p1 : T_api_Head) (h0 : okH p0) (h1 : okH p1) : g5 p0 p1 = some true := by
  have jt : g5_j1 p0 p1 true = some true := by
    unfold g5_j1
    rw [if_pos rfl, live_ok]; rfl
  obtain ⟨c, e, hc⟩ := short_two p0 p1
  unfold g5
  rw [live_ok, Option.bind_some, if_neg (by simp), e, Option.bind_some]
  cases c with
  | false => exact jt
  | true =>
    have hm := (hc rfl).1
    have he := wf_u64 h0.1
    have hu : B8 p0.User := B8.of_wf h0.2.2.2.2
    obtain ⟨r, l1, l2⟩ := headLay_same (h := p0) (by omega) he hu
    obtain ⟨s1, e1, i1⟩ := headSame_ok p0 p1 (by omega)
    obtain ⟨s2, e2, i2⟩ := rheadSame_ok p0 p1 (by omega)
    have es : s1 = s2 := Bool.eq_iff_iff.2 (i1.trans i2.symm)
    have eq1 : ∀ l : List Int, g24 l l = some true := fun l => by unfold g24; simp
    unfold g5_j1 g5_j2
    rw [if_neg (by decide), headPut_ok (by omega), rheadPut_ok, l1, l2, headCheck_ok (by omega), rheadCheck_ok, e1, e2, (page_ok he).1, (page_ok he).2]
    simp only [Option.bind_some, es, if_true, eq1, decide_true]
/-! ### HeadGets -/
theorem clone_ok {l : List Int} (h : l.length ≤ 100000) : g13 l = some l := by
  unfold g13
  rw [appI_ok (by simp; omega)]
  rfl
theorem gets_inl (p0 : Int) (p1 own : List Int) (x y : Int × T_pack_Reader) : ∀ (fuel : Nat) (i : Int) (rb : List Int) (re : Int) (rm : Bool) (acc : List Int),
    g4_l4 p0 p1 own x y fuel i rb re rm acc = (g14_l1 p0 own x y fuel i rb re rm acc).bind fun r => g4_j2 p0 p1 own r.1.Epoch r.1.Pages r.1.Maps r.1.User r.2 := by
  intro fuel
  induction fuel with
  | zero => intros; rfl
  | succ n ih =>
    intro i rb re rm acc
    show g4_l4B p0 p1 own x y (g4_l4 p0 p1 own x y n) i rb re rm acc = (g14_l1B p0 own x y (g14_l1 p0 own x y n) i rb re rm acc).bind _
    unfold g4_l4B g14_l1B g4_j5
    rw [ite_bind]
    by_cases c : i < (if 3 < y.1 then 3 else y.1)
    · rw [if_pos c, if_pos c, Option.bind_assoc]
      congr 1; funext v
      rw [Option.bind_assoc]
      congr 1; funext w
      exact ih _ _ _ _ _
    · rw [if_neg c, if_neg c, Option.bind_assoc]
      congr 1; funext v
      rw [Option.bind_assoc]
      congr 1; funext w
      rw [ite_bind]
      by_cases c2 : w ≠ 0
      · rw [if_pos c2, if_pos c2, Option.bind_some]
      · rw [if_neg c2, if_neg c2, Option.bind_assoc]
        congr 1; funext z
        rw [ite_bind]
        by_cases c3 : z.2 ≠ 0
        · rw [if_pos c3, if_pos c3, if_pos rfl, Option.bind_some]
        · rw [if_neg c3, if_neg c3, Option.bind_assoc]
          congr 1; funext t
          rw [ite_decide, ite_bind]
          by_cases c4 : ¬ (t = true)
          · rw [if_pos c4, if_pos c4, Option.bind_some]
          · rw [if_neg c4, if_neg c4, Option.bind_some]
theorem gets_l3 (p0 : Int) (p1 own : List Int) (a b : Int) (m u : List Int) (e : Int) (hb : own.length ≤ 100000) : ∀ (fuel i : Nat) (y : List Int), y.length = own.length → i ≤ own.length → own.length - i < fuel →
    g4_l3 p0 p1 own a b m u e fuel (i : Int) y = (g15 p0 p1).bind fun r => (g12 ⟨a, b, m, u⟩ r.1).bind fun c => if c = true then some (decide (e = r.2)) else some false := by
  intro fuel
  induction fuel with
  | zero => intro i y _ _ h; omega
  | succ n ih =>
    intro i y hy hi hf
    show g4_l3B p0 p1 own a b m u e (g4_l3 p0 p1 own a b m u e n) (i : Int) y = _
    unfold g4_l3B
    by_cases h : i < own.length
    · rw [if_pos (by omega), getI_nat, List.getElem?_eq_getElem (by omega), Option.bind_some, Option.bind_some, setI_nat (by omega), Option.bind_some, i64_in _ (by omega), show (i : Int) + 1 = ((i + 1 : Nat) : Int) by omega, ih (i + 1) _ (by rw [List.length_set]; exact hy) (by omega) (by omega)]
    · rw [if_neg (by omega)]
theorem GetS.maps {e : Int} {b : List Int} {r : T_api_Head × Int} (h : GetS e b r) : r.1.Maps.length ≤ 2 := by
  rcases h with rfl | ⟨_, k, _⟩
  · simp [H0]
  · exact k.few.2
theorem Pure.HeadGets (p0 : Int) (p1 : List Int) (h0 : (Lit.int .u64 p0).wf = true) (h1 : p1.length ≤ 9223372036854775807 ∧ ∀ x ∈ p1, (Lit.int .u8 x).wf = true) : g4 p0 p1 = some true := by
  have jt : g4_j1 p0 p1 true = some true := by
    unfold g4_j1
    rw [if_pos rfl, live_ok]; rfl
  have hb : B8 p1 := B8.of_wf h1.2
  unfold g4
  rw [live_ok, Option.bind_some, if_neg (by simp)]
  by_cases hl : (p1.length : Int) > 3000
  · rw [decide_eq_true hl, jt]
  · rw [decide_eq_false hl]
    obtain ⟨r, e1, e2, s⟩ := headGet_same hb (by omega) p0
    have hg : (g14 p0 p1).bind (fun r => g4_j2 p0 p1 p1 r.1.Epoch r.1.Pages r.1.Maps r.1.User r.2) = some true := by
      rw [e1, Option.bind_some]
      unfold g4_j2
      rw [show (0 : Int) = ((0 : Nat) : Int) from rfl, gets_l3 p0 p1 p1 _ _ _ _ _ (by omega) FUEL 0 p1 rfl (by omega) (by unfold FUEL; omega), e2, Option.bind_some]
      have : (⟨r.1.Epoch, r.1.Pages, r.1.Maps, r.1.User⟩ : T_api_Head) = r.1 := rfl
      rw [this, rheadSame_refl _ (by have := s.maps; omega), Option.bind_some, if_pos rfl, decide_eq_true rfl]
    unfold g4_j1
    rw [if_neg (by decide), clone_ok (by omega), Option.bind_some]
    unfold g14 at hg
    simp only [gets_inl]
    simpa only [Option.bind_assoc] using hg
end Go.Proofs.YtclnddebhjjpfaaDoor
