/- Plain laws of head: which may be; what a page bears. -/
import Derived.Test.YtclnddebhjjpfaaDoorPT
import Derived.Test.YtclnddebhjjpfaaDoorPS
set_option linter.unusedVariables false
set_option maxRecDepth 20000
namespace Go.Proofs.YtclnddebhjjpfaaDoor
open Go Go.SX
/-- Each page of the free map is right, and stands once. -/
def good (P : Int) : List Int → List Int → Bool
  | _, [] => true
  | pre, m :: r => decide (2 ≤ m ∧ m < P ∧ m ∉ pre) && good P (pre ++ [m]) r
theorem good_cons {P m : Int} {pre r : List Int} : good P pre (m :: r) = (decide ((2 : Int) ≤ m ∧ m < P ∧ m ∉ pre) && good P (pre ++ [m]) r) := rfl
def mapsN (P : Int) : Int := if P ≤ 1024 then 1 else 2
def HeadOk (h : T_api_Head) : Prop := 8 ≤ h.Pages ∧ h.Pages ≤ 2048 ∧ (h.Maps.length : Int) = mapsN h.Pages ∧ good h.Pages [] h.Maps = true ∧ h.User.length ≤ 32
instance (h : T_api_Head) : Decidable (HeadOk h) := by unfold HeadOk; infer_instance
def H0 : T_api_Head := ⟨0, 0, [], []⟩
theorem holds_j1 (h : T_api_Head) (c : Bool) : g42_j1 h c = some (c && decide (h.User.length ≤ 32)) := by
  unfold g42_j1
  cases c with
  | true => rw [if_pos rfl]; congr 1; rw [Bool.true_and, decide_eq_decide]; omega
  | false => rfl
theorem holds_l3 {h : T_api_Head} (hm : h.Maps.length < 4000000000000000000) : ∀ (fuel i : Nat) (ok : Bool), i ≤ h.Maps.length → h.Maps.length - i < fuel →
    g42_l3 h fuel ok (i : Int) = some ((ok && good h.Pages (h.Maps.take i) (h.Maps.drop i)) && decide (h.User.length ≤ 32)) := by
  intro fuel
  induction fuel with
  | zero => intro i ok _ h; omega
  | succ n ih =>
    intro i ok hi hf
    show g42_l3B h (g42_l3 h n) ok (i : Int) = _
    unfold g42_l3B g42_j4
    by_cases hlt : i < h.Maps.length
    · rw [if_pos (by omega), getI_nat, List.getElem?_eq_getElem hlt, Option.bind_some, i64_in ((i : Int) + 1) (by omega), show (i : Int) + 1 = ((i + 1 : Nat) : Int) by omega, List.drop_eq_getElem_cons hlt]
      have next : ∀ c : Bool, g42_l3 h n c ((i + 1 : Nat) : Int) = some ((c && good h.Pages (h.Maps.take i ++ [h.Maps[i]]) (h.Maps.drop (i + 1))) && decide (h.User.length ≤ 32)) := fun c => by
        rw [ih (i + 1) c (by omega) (by omega), List.take_append_getElem hlt]
      rw [good_cons]
      cases ok with
      | false =>
        rw [if_neg (by decide), next]
        rfl
      | true =>
        rw [if_pos rfl]
        by_cases c1 : h.Maps[i] ≥ 2
        · rw [if_pos c1]
          by_cases c2 : h.Maps[i] < h.Pages
          · rw [if_pos c2, cutI_to (by omega), Option.bind_some, contains_ok _ _ (by rw [List.length_take]; omega), Option.bind_some, next]
            have e : (decide (2 ≤ h.Maps[i] ∧ h.Maps[i] < h.Pages ∧ h.Maps[i] ∉ h.Maps.take i)) = decide (¬ (decide (h.Maps[i] ∈ h.Maps.take i) = true)) := by
              rw [decide_eq_decide, decide_eq_true_iff]
              exact ⟨fun hh => hh.2.2, fun hh => ⟨c1, c2, hh⟩⟩
            rw [e, Bool.true_and]
          · rw [if_neg c2, next, decide_eq_false (show ¬ ((2 : Int) ≤ h.Maps[i] ∧ h.Maps[i] < h.Pages ∧ h.Maps[i] ∉ h.Maps.take i) from fun hh => c2 hh.2.1)]
            rfl
        · rw [if_neg c1, next, decide_eq_false (show ¬ ((2 : Int) ≤ h.Maps[i] ∧ h.Maps[i] < h.Pages ∧ h.Maps[i] ∉ h.Maps.take i) from fun hh => c1 hh.1)]
          rfl
    · rw [if_neg (by omega), holds_j1, List.drop_of_length_le (by omega)]
      cases ok <;> rfl
theorem holds_ok {h : T_api_Head} (hm : h.Maps.length < 4000000000000000000) : g42 h 0 = some (decide (HeadOk h)) := by
  have j2 (c : Bool) : g42_j2 h c = some ((c && good h.Pages [] h.Maps) && decide (h.User.length ≤ 32)) := by
    have := holds_l3 hm FUEL 0 c (by omega) (by unfold FUEL; omega)
    rw [List.take_zero, List.drop_zero] at this
    exact this
  have maps : g64 h.Pages = some (mapsN h.Pages) := by
    unfold g64 mapsN
    by_cases c : h.Pages ≤ 1024
    · rw [if_pos c, if_pos c]
    · rw [if_neg c, if_neg c]
  have j5 (c : Bool) : g42_j5 h c = some (((c && decide ((h.Maps.length : Int) = mapsN h.Pages)) && good h.Pages [] h.Maps) && decide (h.User.length ≤ 32)) := by
    unfold g42_j5
    cases c with
    | true => rw [if_pos rfl, maps, Option.bind_some, j2]; rfl
    | false => rw [if_neg (by decide), j2]; rfl
  have fin (c : Bool) (hc : c = decide (8 ≤ h.Pages ∧ h.Pages ≤ 2048)) : some (((c && decide ((h.Maps.length : Int) = mapsN h.Pages)) && good h.Pages [] h.Maps) && decide (h.User.length ≤ 32)) = some (decide (HeadOk h)) := by
    congr 1
    rw [Bool.eq_iff_iff, decide_eq_true_iff, hc]
    simp only [Bool.and_eq_true, decide_eq_true_iff]
    unfold HeadOk
    constructor
    · rintro ⟨⟨⟨⟨a, b⟩, c⟩, d⟩, e⟩; exact ⟨a, b, c, d, e⟩
    · rintro ⟨a, b, c, d, e⟩; exact ⟨⟨⟨⟨a, b⟩, c⟩, d⟩, e⟩
  unfold g42
  rw [if_pos rfl]
  by_cases c1 : h.Pages ≥ 8
  · rw [if_pos c1, j5]
    refine fin _ ?_
    rw [decide_eq_decide]
    exact ⟨fun h => ⟨c1, h⟩, fun h => h.2⟩
  · rw [if_neg c1, j5]
    refine fin _ ?_
    rw [eq_comm, decide_eq_false_iff_not]
    exact fun h => c1 h.1
def chkH (h : T_api_Head) : Int := if HeadOk h then 0 else 60
theorem chkH0 {h : T_api_Head} : chkH h = 0 ↔ HeadOk h := by
  unfold chkH
  by_cases c : HeadOk h
  · rw [if_pos c]; exact ⟨fun _ => c, fun _ => rfl⟩
  · rw [if_neg c]; exact ⟨fun h => by omega, fun h => absurd h c⟩
theorem headCheck_ok {h : T_api_Head} (hm : h.Maps.length < 4000000000000000000) : g21 h = some (chkH h) := by
  unfold g21 chkH
  rw [holds_ok hm, Option.bind_some]
  by_cases c : HeadOk h
  · rw [if_neg (by simp [c]), if_pos c]
  · rw [if_pos (by simp [c]), if_neg c]
theorem mapsN_le (P : Int) : 1 ≤ mapsN P ∧ mapsN P ≤ 2 := by unfold mapsN; split <;> omega
/-! ### What a page bears -/
def preH (h : T_api_Head) : List Int := be 2 h.Pages.toNat ++ (((h.Maps.length : Int) :: h.Maps.flatMap fun m => be 2 m.toNat) ++ tx h.User)
def padH (h : T_api_Head) : List Int := preH h ++ List.replicate (240 - (preH h).length) 0
theorem flat_len : ∀ l : List Int, (l.flatMap fun m => be 2 m.toNat).length = 2 * l.length
  | [] => rfl
  | m :: l => by rw [List.flatMap_cons, List.length_append, be_len, flat_len l, List.length_cons]; omega
theorem preH_len (h : T_api_Head) : (preH h).length = 4 + 2 * h.Maps.length + h.User.length := by
  unfold preH
  rw [List.length_append, List.length_append, List.length_cons, be_len, flat_len, tx_len]
  omega
theorem good_mem {P : Int} : ∀ (l pre : List Int), good P pre l = true → ∀ m ∈ l, 2 ≤ m ∧ m < P
  | [], _, _, m, hm => by cases hm
  | a :: l, pre, h, m, hm => by
    rw [good_cons] at h
    rw [Bool.and_eq_true, decide_eq_true_iff] at h
    rcases List.mem_cons.1 hm with rfl | hm
    · exact ⟨h.1.1, h.1.2.1⟩
    · exact good_mem l _ h.2 m hm
theorem HeadOk.few {h : T_api_Head} (k : HeadOk h) : 1 ≤ h.Maps.length ∧ h.Maps.length ≤ 2 := by
  have := mapsN_le h.Pages
  have := k.2.2.1
  omega
theorem flat8 : ∀ l : List Int, B8 (l.flatMap fun m => be 2 m.toNat)
  | [] => B8.nil
  | m :: l => by rw [List.flatMap_cons]; exact (be_B8 _ _).append (flat8 l)
theorem padH8 {h : T_api_Head} (k : HeadOk h) (hu : B8 h.User) : B8 (padH h) := by
  have := k.few
  exact ((be_B8 _ _).append ((B8.cons (by omega) (flat8 _)).append (tx_8 hu (by have := k.2.2.2.2; omega)))).append (B8.rep _)
theorem padH_len {h : T_api_Head} (k : HeadOk h) : (padH h).length = 240 := by
  have := k.few
  have := k.2.2.2.2
  unfold padH
  rw [List.length_append, List.length_replicate, preH_len]
  omega
theorem appZ240 {b : List Int} (h : b.length ≤ 240) : appZI b (IntKind.i64.wrap (240 - (b.length : Int))) 0 1 = some (b ++ List.replicate (240 - b.length) 0) := by
  have e : IntKind.i64.wrap (240 - (b.length : Int)) = ((240 - b.length : Nat) : Int) := by rw [i64_in _ (by omega)]; omega
  unfold appZI
  rw [e, Int.toNat_natCast, if_pos (by omega)]
theorem hput_loop {h : T_api_Head} (k : HeadOk h) : ∀ (fuel i : Nat) (acc : List Int), i ≤ h.Maps.length → h.Maps.length - i < fuel → acc.length ≤ 100 + 2 * i →
    g17_l1 h fuel acc (i : Int) = (g38 (acc ++ (h.Maps.drop i).flatMap fun m => be 2 m.toNat) h.User).bind fun x => if x.2 ≠ 0 then some ([], x.2) else (appZI x.1 (IntKind.i64.wrap (240 - (x.1.length : Int))) 0 1).bind fun y => some (y, 0) := by
  have hf2 := k.few
  intro fuel
  induction fuel with
  | zero => intro i acc _ h; omega
  | succ n ih =>
    intro i acc hi hf ha
    show g17_l1B h (g17_l1 h n) acc (i : Int) = _
    unfold g17_l1B
    by_cases hlt : i < h.Maps.length
    · have hm := good_mem _ _ k.2.2.2.1 h.Maps[i] (List.getElem_mem hlt)
      have := k.2.1
      obtain ⟨m, e⟩ : ∃ m : Nat, h.Maps[i] = (m : Int) := ⟨h.Maps[i].toNat, by omega⟩
      rw [if_pos (by omega), getI_nat, List.getElem?_eq_getElem hlt, Option.bind_some, e, u16_in _ (by omega), u16_ok (by omega) (by omega), Option.bind_some, i64_in _ (by omega), show (i : Int) + 1 = ((i + 1 : Nat) : Int) by omega, ih (i + 1) _ (by omega) (by omega) (by rw [List.length_append, be_len]; omega), List.drop_eq_getElem_cons hlt, List.flatMap_cons, e, Int.toNat_natCast, List.append_assoc]
    · rw [if_neg (by omega), List.drop_of_length_le (by omega), List.flatMap_nil, List.append_nil]
theorem headPut_ok {h : T_api_Head} (hm : h.Maps.length < 4000000000000000000) : g17 h = some (if chkH h = 0 then (padH h, 0) else ([], chkH h)) := by
  unfold g17
  rw [headCheck_ok hm, Option.bind_some]
  by_cases c : chkH h = 0
  · have k := chkH0.1 c
    have hf2 := k.few
    have hu := k.2.2.2.2
    have hp1 := k.1
    have hp2 := k.2.1
    obtain ⟨P, e⟩ : ∃ P : Nat, h.Pages = (P : Int) := ⟨h.Pages.toNat, by omega⟩
    rw [if_neg (by omega), if_pos c, e, u16_in _ (by omega), u16_ok (by omega) (by simp), Option.bind_some, u8_in _ (by omega), List.nil_append, appI_ok (by simp [be_len]), Option.bind_some]
    have L := hput_loop k FUEL 0 (be 2 P ++ [(h.Maps.length : Int)]) (by omega) (by unfold FUEL; omega) (by simp [be_len])
    rw [show g17_l1 h FUEL (be 2 P ++ [(h.Maps.length : Int)]) 0 = _ from L, List.drop_zero, text_ok (by omega) (by rw [List.length_append, List.length_append, be_len, flat_len]; simp; omega), Option.bind_some, if_neg (by simp)]
    have ep : be 2 P ++ [(h.Maps.length : Int)] ++ (h.Maps.flatMap fun m => be 2 m.toNat) ++ tx h.User = preH h := by
      unfold preH
      rw [e, Int.toNat_natCast]
      simp only [List.append_assoc, List.cons_append, List.nil_append]
    simp only
    rw [ep, appZ240 (by rw [preH_len]; omega)]
    rfl
  · rw [if_pos c, if_neg c]
end Go.Proofs.YtclnddebhjjpfaaDoor
