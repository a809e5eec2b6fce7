/- Plain laws of the reference: order, May, Find, Kid, own, Same. -/
import Derived.Test.YtefjbhogpgihaaaNKw
set_option linter.unusedVariables false
set_option maxRecDepth 20000
namespace Go.Proofs.Ytefjbhogpgihaaa
open Go Go.SX
theorem less_cmp : ∀ (a b : List UInt8), Op.bytesLess a b = decide (Lib.compareBytes a b < 0)
  | [], [] => by decide
  | [], _ :: _ => by simp [Op.bytesLess, Lib.compareBytes]
  | _ :: _, [] => by simp [Op.bytesLess, Lib.compareBytes]
  | a :: x, b :: y => by
    unfold Op.bytesLess Lib.compareBytes
    rw [less_cmp x y]
    by_cases h : a < b
    · simp [h]
    · by_cases h2 : b < a
      · have : (a == b) = false := by
          rw [beq_eq_false_iff_ne]
          rintro rfl
          exact h h2
        simp [h, h2, this]
      · have : a = b := by
          apply UInt8.toNat_inj.1
          have h1 : ¬ a.toNat < b.toNat := fun k => h (UInt8.lt_iff_toNat_lt.2 k)
          have h3 : ¬ b.toNat < a.toNat := fun k => h2 (UInt8.lt_iff_toNat_lt.2 k)
          omega
        subst this
        simp
theorem cmp_zero : ∀ (a b : List UInt8), Lib.compareBytes a b = 0 ↔ a = b
  | [], [] => by simp [Lib.compareBytes]
  | [], _ :: _ => by simp [Lib.compareBytes]
  | _ :: _, [] => by simp [Lib.compareBytes]
  | a :: x, b :: y => by
    unfold Lib.compareBytes
    by_cases h : a < b
    · rw [if_pos h]
      constructor
      · intro h0; omega
      · intro e
        cases e
        exact absurd h (UInt8.lt_irrefl _)
    · rw [if_neg h]
      by_cases h2 : b < a
      · rw [if_pos h2]
        constructor
        · intro h0; omega
        · intro e
          cases e
          exact absurd h2 (UInt8.lt_irrefl _)
      · rw [if_neg h2, cmp_zero x y]
        have : a = b := by
          apply UInt8.toNat_inj.1
          have h1 : ¬ a.toNat < b.toNat := fun k => h (UInt8.lt_iff_toNat_lt.2 k)
          have h3 : ¬ b.toNat < a.toNat := fun k => h2 (UInt8.lt_iff_toNat_lt.2 k)
          omega
        subst this
        simp
theorem cmpB_eq (xs ys : List Int) : cmpB xs ys = Lib.compareBytes (Lib.bytesOf xs) (Lib.bytesOf ys) := by unfold cmpB; rw [Lib.cmp_eq]
theorem less_ok (xs ys : List Int) : Op.bytesLess (strOfNums xs).toList (strOfNums ys).toList = decide (cmpB xs ys < 0) := by
  rw [Lib.strOfNums_toList, Lib.strOfNums_toList, cmpB_eq, less_cmp]
theorem eq_cmp (xs ys : List Int) : (strOfNums xs).toList = (strOfNums ys).toList ↔ cmpB xs ys = 0 := by
  rw [Lib.strOfNums_toList, Lib.strOfNums_toList, cmpB_eq, cmp_zero]
theorem Key_ok (k : List Int) : g54 k = some (decide (isKeyP k)) := by
  unfold g54
  by_cases h : (k.length : Int) ≥ 1
  · rw [if_pos h]; congr 1; rw [decide_eq_decide]; unfold isKeyP; omega
  · rw [if_neg h]; congr 1; rw [eq_comm, decide_eq_false_iff_not]; unfold isKeyP; omega
theorem Child_ok (k : Int) : g55 k = some (decide (2 ≤ k ∧ k < 2048)) := by
  unfold g55
  by_cases h : k ≥ 2
  · rw [if_pos h]; congr 1; rw [decide_eq_decide]; omega
  · rw [if_neg h]; congr 1; rw [eq_comm, decide_eq_false_iff_not]; omega
def prevOf (ks : List (List Int)) (i : Nat) : Option (List Int) := if i = 0 then none else ks[i - 1]?
theorem prevOf_next {ks : List (List Int)} {i : Nat} {k : List Int} (h : ks[i]? = some k) : prevOf ks (i + 1) = some k := by
  unfold prevOf
  rw [if_neg (by omega), Nat.add_sub_cancel, h]
theorem prevOf_pos {ks : List (List Int)} {i : Nat} (h : 0 < i) (hi : i < ks.length) : prevOf ks i = some (ks[i - 1]'(by omega)) := by
  unfold prevOf
  rw [if_neg (by omega), List.getElem?_eq_getElem]
theorem refMay_pairs {n : T_api_Node} (hf : Fine n) : ∀ (fuel i : Nat), i ≤ n.Pairs.length → n.Pairs.length - i < fuel →
    ∃ b, g18_l2 n fuel (i : Int) = some b ∧ (b = true ↔ (rise (prevOf (n.Pairs.map (·.Key)) i) ((n.Pairs.drop i).map (·.Key)) ∧ ∀ p ∈ n.Pairs.drop i, p.Val.length ≤ 24)) := by
  have f1 := hf.1
  intro fuel
  induction fuel with
  | zero => intro i _ h; omega
  | succ f ih =>
    intro i hi hfu
    show ∃ b, g18_l2B n (g18_l2 n f) (i : Int) = some b ∧ _
    unfold g18_l2B
    by_cases h : i < n.Pairs.length
    · have hx := List.getElem?_eq_getElem h
      have hk? : (n.Pairs.map (·.Key))[i]? = some n.Pairs[i].Key := by rw [List.getElem?_map, hx]; rfl
      obtain ⟨b, hb, hib⟩ := ih (i + 1) (by omega) (by omega)
      rw [prevOf_next hk?] at hib
      rw [if_pos (by omega), getI_nat, hx, Option.bind_some, Key_ok, Option.bind_some, List.drop_eq_getElem_cons h, List.map_cons]
      by_cases hk : isKeyP n.Pairs[i].Key
      · rw [if_neg (by simpa using hk), Option.bind_some]
        by_cases hv : (n.Pairs[i].Val.length : Int) > 24
        · rw [if_pos hv]
          refine ⟨false, rfl, ⟨fun h => by simp at h, fun h => ?_⟩⟩
          have := h.2 _ (List.mem_cons_self ..)
          omega
        · rw [if_neg hv]
          have done : (rise (some n.Pairs[i].Key) ((n.Pairs.drop (i + 1)).map (·.Key)) ∧ ∀ p ∈ n.Pairs.drop (i + 1), p.Val.length ≤ 24) → (∀ l, prevOf (n.Pairs.map (·.Key)) i = some l → cmpB l n.Pairs[i].Key < 0) →
              (rise (prevOf (n.Pairs.map (·.Key)) i) (n.Pairs[i].Key :: (n.Pairs.drop (i + 1)).map (·.Key)) ∧ ∀ p ∈ n.Pairs[i] :: n.Pairs.drop (i + 1), p.Val.length ≤ 24) := fun h1 h2 =>
            ⟨⟨hk, h2, h1.1⟩, fun p hp => by rcases List.mem_cons.1 hp with rfl | hp; omega; exact h1.2 p hp⟩
          have undo : (rise (prevOf (n.Pairs.map (·.Key)) i) (n.Pairs[i].Key :: (n.Pairs.drop (i + 1)).map (·.Key)) ∧ ∀ p ∈ n.Pairs[i] :: n.Pairs.drop (i + 1), p.Val.length ≤ 24) →
              (rise (some n.Pairs[i].Key) ((n.Pairs.drop (i + 1)).map (·.Key)) ∧ ∀ p ∈ n.Pairs.drop (i + 1), p.Val.length ≤ 24) ∧ (∀ l, prevOf (n.Pairs.map (·.Key)) i = some l → cmpB l n.Pairs[i].Key < 0) := fun h =>
            ⟨⟨h.1.2.2, fun p hp => h.2 p (List.mem_cons_of_mem _ hp)⟩, h.1.2.1⟩
          by_cases hz : (i : Int) > 0
          · have hp := prevOf_pos (ks := n.Pairs.map (·.Key)) (i := i) (by omega) (by rw [List.length_map]; omega)
            rw [List.getElem_map] at hp
            rw [if_pos hz, show IntKind.i64.wrap ((i : Int) - 1) = ((i - 1 : Nat) : Int) by rw [i64_in _ (by omega)]; omega, getI_nat, List.getElem?_eq_getElem (show i - 1 < n.Pairs.length by omega), Option.bind_some, Option.bind_some, less_ok]
            unfold g18_j3
            by_cases hc : cmpB (n.Pairs[i - 1]'(by omega)).Key n.Pairs[i].Key < 0
            · rw [decide_eq_true hc, if_neg (by decide), i64_in _ (by omega), show (i : Int) + 1 = ((i + 1 : Nat) : Int) by omega]
              refine ⟨b, hb, ⟨fun h => done (hib.1 h) fun l hl => ?_, fun h => hib.2 (undo h).1⟩⟩
              rw [hp] at hl
              cases hl
              exact hc
            · rw [decide_eq_false hc, if_pos (by decide)]
              exact ⟨false, rfl, ⟨fun h => by simp at h, fun h => absurd ((undo h).2 _ hp) hc⟩⟩
          · rw [if_neg hz]
            unfold g18_j3
            rw [if_neg (by decide), i64_in _ (by omega), show (i : Int) + 1 = ((i + 1 : Nat) : Int) by omega]
            refine ⟨b, hb, ⟨fun h => done (hib.1 h) fun l hl => ?_, fun h => hib.2 (undo h).1⟩⟩
            unfold prevOf at hl
            rw [if_pos (by omega)] at hl
            cases hl
      · rw [if_pos (by simpa using hk)]
        exact ⟨false, rfl, ⟨fun h => by simp at h, fun h => absurd h.1.1 hk⟩⟩
    · rw [if_neg (by omega), List.drop_of_length_le (by omega)]
      exact ⟨true, rfl, ⟨fun _ => ⟨trivial, by simp⟩, fun _ => rfl⟩⟩
theorem refMay_kids {n : T_api_Node} (hf : Fine n) : g18_l6 n FUEL 0 = some (decide (∀ k ∈ n.Kids, ¬ ¬ (2 ≤ k ∧ k < 2048))) := by
  have f3 := hf.2.2
  have s := scanC (xs := n.Kids) (fun k => ¬ (2 ≤ k ∧ k < 2048)) (g18_l6 n) (fun i => some false) (some false) (some true) (by unfold FUEL; omega) (fun _ _ => rfl)
    (fun f i x hx => by
      have hi := (List.getElem?_eq_some_iff.1 hx).1
      show g18_l6B n (g18_l6 n f) (i : Int) = _
      unfold g18_l6B
      rw [if_pos (by omega), getI_nat, hx, Option.bind_some, Child_ok, Option.bind_some, i64_in _ (by omega), show (i : Int) + 1 = ((i + 1 : Nat) : Int) by omega]
      by_cases hv : 2 ≤ x ∧ x < 2048
      · rw [if_neg (by simp [hv]), if_neg (Decidable.not_not.2 hv)]
      · rw [if_pos (by simpa using hv), if_pos hv])
    (fun f => by
      show g18_l6B n (g18_l6 n f) (n.Kids.length : Int) = _
      unfold g18_l6B
      rw [if_neg (by omega)])
  rw [s]
  by_cases h : ∀ k ∈ n.Kids, ¬ ¬ (2 ≤ k ∧ k < 2048)
  · rw [if_pos h, decide_eq_true h]
  · rw [if_neg h, decide_eq_false h]
theorem refMay_keys {n : T_api_Node} (hf : Fine n) : ∀ (fuel i : Nat), i ≤ n.Keys.length → n.Keys.length - i < fuel →
    ∃ b, g18_l5 n fuel (i : Int) = some b ∧ (b = true ↔ (rise (prevOf n.Keys i) (n.Keys.drop i) ∧ ∀ k ∈ n.Kids, 2 ≤ k ∧ k < 2048)) := by
  have f2 := hf.2.1
  intro fuel
  induction fuel with
  | zero => intro i _ h; omega
  | succ f ih =>
    intro i hi hfu
    show ∃ b, g18_l5B n (g18_l5 n f) (i : Int) = some b ∧ _
    unfold g18_l5B
    by_cases h : i < n.Keys.length
    · have hx := List.getElem?_eq_getElem h
      obtain ⟨b, hb, hib⟩ := ih (i + 1) (by omega) (by omega)
      rw [prevOf_next hx] at hib
      rw [if_pos (by omega), getI_nat, hx, Option.bind_some, Key_ok, Option.bind_some, List.drop_eq_getElem_cons h]
      by_cases hk : isKeyP n.Keys[i]
      · rw [if_neg (by simpa using hk)]
        have done : (rise (some n.Keys[i]) (n.Keys.drop (i + 1)) ∧ ∀ k ∈ n.Kids, 2 ≤ k ∧ k < 2048) → (∀ l, prevOf n.Keys i = some l → cmpB l n.Keys[i] < 0) →
            (rise (prevOf n.Keys i) (n.Keys[i] :: n.Keys.drop (i + 1)) ∧ ∀ k ∈ n.Kids, 2 ≤ k ∧ k < 2048) := fun h1 h2 => ⟨⟨hk, h2, h1.1⟩, h1.2⟩
        have undo : (rise (prevOf n.Keys i) (n.Keys[i] :: n.Keys.drop (i + 1)) ∧ ∀ k ∈ n.Kids, 2 ≤ k ∧ k < 2048) →
            (rise (some n.Keys[i]) (n.Keys.drop (i + 1)) ∧ ∀ k ∈ n.Kids, 2 ≤ k ∧ k < 2048) ∧ (∀ l, prevOf n.Keys i = some l → cmpB l n.Keys[i] < 0) := fun h => ⟨⟨h.1.2.2, h.2⟩, h.1.2.1⟩
        by_cases hz : (i : Int) > 0
        · have hp := prevOf_pos (ks := n.Keys) (i := i) (by omega) h
          rw [if_pos hz, show IntKind.i64.wrap ((i : Int) - 1) = ((i - 1 : Nat) : Int) by rw [i64_in _ (by omega)]; omega, getI_nat, List.getElem?_eq_getElem (show i - 1 < n.Keys.length by omega), Option.bind_some, Option.bind_some, less_ok]
          by_cases hc : cmpB (n.Keys[i - 1]'(by omega)) n.Keys[i] < 0
          · rw [decide_eq_true hc, if_neg (by decide), i64_in _ (by omega), show (i : Int) + 1 = ((i + 1 : Nat) : Int) by omega]
            refine ⟨b, hb, ⟨fun h => done (hib.1 h) fun l hl => ?_, fun h => hib.2 (undo h).1⟩⟩
            rw [hp] at hl
            cases hl
            exact hc
          · rw [decide_eq_false hc, if_pos (by decide)]
            exact ⟨false, rfl, ⟨fun h => by simp at h, fun h => absurd ((undo h).2 _ hp) hc⟩⟩
        · rw [if_neg hz, i64_in _ (by omega), show (i : Int) + 1 = ((i + 1 : Nat) : Int) by omega]
          refine ⟨b, hb, ⟨fun h => done (hib.1 h) fun l hl => ?_, fun h => hib.2 (undo h).1⟩⟩
          unfold prevOf at hl
          rw [if_pos (by omega)] at hl
          cases hl
      · rw [if_pos (by simpa using hk)]
        exact ⟨false, rfl, ⟨fun h => by simp at h, fun h => absurd h.1.1 hk⟩⟩
    · rw [if_neg (by omega), refMay_kids hf, List.drop_of_length_le (by omega)]
      refine ⟨_, rfl, ?_⟩
      rw [decide_eq_true_iff]
      exact ⟨fun h => ⟨trivial, fun k hk => Decidable.not_not.1 (h k hk)⟩, fun h k hk => Decidable.not_not.2 (h.2 k hk)⟩
theorem refMay_ok {n : T_api_Node} (hf : Fine n) : g18 n = some (mayB n) := by
  have hf0 := hf
  obtain ⟨f1, f2, f3⟩ := hf0
  obtain ⟨b1, e1, i1⟩ := refMay_pairs hf FUEL 0 (by omega) (by unfold FUEL; omega)
  obtain ⟨b2, e2, i2⟩ := refMay_keys hf FUEL 0 (by omega) (by unfold FUEL; omega)
  have no (h : ¬ MayP n) : some false = some (mayB n) := by
    congr 1
    rw [eq_comm, Bool.eq_false_iff]
    exact fun hh => h ((mayB_iff n).1 hh)
  have p0 (ks : List (List Int)) : prevOf ks 0 = none := by unfold prevOf; rw [if_pos rfl]
  rw [List.drop_zero, p0] at i1 i2
  unfold g18
  cases hl : n.Leaf with
  | true =>
    rw [if_pos rfl, i64_in _ (by omega), Option.bind_some]
    unfold g18_j1
    by_cases c1 : (n.Keys.length : Int) + (n.Kids.length : Int) > 0
    · rw [if_pos c1, if_pos rfl]
      refine no fun m => ?_
      obtain ⟨_, _, h3, h4⟩ := m.leaf hl
      rw [h3, h4] at c1
      simp at c1
    · rw [if_neg c1]
      have hk : n.Keys = [] := List.eq_nil_of_length_eq_zero (by omega)
      have hi : n.Kids = [] := List.eq_nil_of_length_eq_zero (by omega)
      by_cases c2 : (n.Pairs.length : Int) > 255
      · rw [if_pos (decide_eq_true c2)]
        refine no fun m => ?_
        have := (m.leaf hl).2.1
        omega
      · rw [if_neg (by simpa using c2)]
        refine e1.trans (congrArg some (Bool.eq_iff_iff.2 (i1.trans ?_)))
        rw [mayB_iff]
        constructor
        · intro h
          exact ⟨by rw [hk, List.append_nil]; exact h.1, fun _ => ⟨h.2, by omega, hk, hi⟩, fun hh => by rw [hl] at hh; cases hh⟩
        · intro m
          have := m.keys
          rw [hk, List.append_nil] at this
          exact ⟨this, (m.leaf hl).1⟩
  | false =>
    rw [if_neg (by decide)]
    unfold g18_j4
    by_cases c1 : (n.Pairs.length : Int) > 0
    · rw [if_pos c1, if_pos rfl]
      refine no fun m => ?_
      rw [(m.inner hl).2.1] at c1
      simp at c1
    · rw [if_neg c1]
      have hp : n.Pairs = [] := List.eq_nil_of_length_eq_zero (by omega)
      by_cases c2 : (n.Keys.length : Int) < 1
      · rw [if_pos c2, if_pos rfl]
        refine no fun m => ?_
        have := (m.inner hl).2.2.1
        omega
      · rw [if_neg c2]
        by_cases c3 : (n.Keys.length : Int) > 255
        · rw [if_pos c3, if_pos rfl]
          refine no fun m => ?_
          have := (m.inner hl).2.2.2.1
          omega
        · rw [if_neg c3, i64_in _ (by omega)]
          by_cases c4 : (n.Kids.length : Int) ≠ (n.Keys.length : Int) + 1
          · rw [if_pos (decide_eq_true c4)]
            refine no fun m => ?_
            have := (m.inner hl).2.2.2.2
            omega
          · rw [if_neg (by simpa using c4)]
            refine e2.trans (congrArg some (Bool.eq_iff_iff.2 (i2.trans ?_)))
            rw [mayB_iff]
            constructor
            · intro h
              exact ⟨by rw [hp]; exact h.1, fun hh => (by rw [hl] at hh; cases hh), fun _ => ⟨h.2, hp, by omega, by omega, by omega⟩⟩
            · intro m
              have := m.keys
              rw [hp] at this
              exact ⟨this, (m.inner hl).1⟩
end Go.Proofs.Ytefjbhogpgihaaa
