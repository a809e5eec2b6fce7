/- The plain law of NodeFinds: what the call computes is true, whatever is handed in. -/
import Derived.Test.YtefjbhogpgihaaaNR
set_option linter.unusedVariables false
set_option maxRecDepth 20000
namespace Go.Proofs.Ytefjbhogpgihaaa
open Go Go.SX
/-! ### Find -/
theorem less_goes (k key : List Int) : (decide (cmpB k key < 0) = true) ↔ goesP false (cmpB k key) := by
  rw [decide_eq_true_iff]
  exact ⟨fun h => .inl h, fun h => by rcases h with h | ⟨_, h⟩; exact h; cases h⟩
theorem leq_goes (k key : List Int) : ((decide (cmpB k key < 0) || (strOfNums k).toList == (strOfNums key).toList) = true) ↔ goesP true (cmpB k key) := by
  rw [Bool.or_eq_true, decide_eq_true_iff, beq_iff_eq, eq_cmp]
  exact ⟨fun h => by rcases h with h | h; exact .inl h; exact .inr ⟨h, rfl⟩, fun h => by rcases h with h | ⟨h, _⟩; exact .inl h; exact .inr h⟩
/-- What both tell of a key. -/
noncomputable def findB (n : T_api_Node) (key : List Int) : Int × Bool :=
  if mayB n = true ∧ n.Leaf = true then
    (((lead false key (n.Pairs.map (·.Key)) : Nat) : Int), match n.Pairs[lead false key (n.Pairs.map (·.Key))]? with | some p => decide (cmpB p.Key key = 0) | none => false)
  else (0, false)
theorem refFind_loop {n : T_api_Node} (hf : Fine n) (key : List Int) : ∀ (fuel i : Nat), i ≤ n.Pairs.length → n.Pairs.length - i < fuel →
    g17_l2 n key fuel (i : Int) = g17_j1 n key ((i + lead false key ((n.Pairs.drop i).map (·.Key)) : Nat) : Int) := by
  have f1 := hf.1
  intro fuel
  induction fuel with
  | zero => intro i _ h; omega
  | succ f ih =>
    intro i hi hfu
    show g17_l2B n key (g17_l2 n key f) (i : Int) = _
    unfold g17_l2B
    by_cases h : i < n.Pairs.length
    · have hx := List.getElem?_eq_getElem h
      rw [if_pos (by omega), getI_nat, hx, Option.bind_some, less_ok, List.drop_eq_getElem_cons h, List.map_cons, lead_cons]
      by_cases hg : goesP false (cmpB n.Pairs[i].Key key)
      · rw [if_pos ((less_goes _ _).2 hg), if_pos hg, i64_in _ (by omega), show (i : Int) + 1 = ((i + 1 : Nat) : Int) by omega, ih (i + 1) (by omega) (by omega)]
        congr 2
        omega
      · rw [if_neg (fun h => hg ((less_goes _ _).1 h)), if_neg hg]
        rfl
    · rw [if_neg (by omega), List.drop_of_length_le (by omega)]
      rfl
theorem refFind_ok {n : T_api_Node} (hf : Fine n) (key : List Int) : g17 n key = some (findB n key) := by
  unfold g17 findB
  rw [refMay_ok hf, Option.bind_some]
  by_cases hm : mayB n = true
  · rw [if_neg (by simp [hm])]
    have m := (mayB_iff n).1 hm
    have L := refFind_loop hf key FUEL 0 (by omega) (by have := hf.1; unfold FUEL; omega)
    rw [List.drop_zero, Nat.zero_add] at L
    rw [show g17_l2 n key FUEL 0 = _ from L]
    have hle := lead_le false key (n.Pairs.map (·.Key))
    rw [List.length_map] at hle
    unfold g17_j1
    cases hl : n.Leaf with
    | true =>
      rw [if_pos (show mayB n = true ∧ true = true from ⟨hm, rfl⟩), getI_nat]
      by_cases h : lead false key (n.Pairs.map (·.Key)) < n.Pairs.length
      · rw [if_pos (by omega), List.getElem?_eq_getElem h, Option.bind_some]
        congr 2
        rw [decide_eq_decide]
        exact eq_cmp _ _
      · rw [if_neg (by omega), List.getElem?_eq_none (by omega)]
    | false =>
      rw [if_neg (show ¬ (mayB n = true ∧ false = true) by simp), (m.inner hl).2.1]
      rfl
  · rw [if_pos hm, if_neg (fun h => hm h.1)]
theorem Find_ok {n : T_api_Node} (hf : Fine n) (key : List Int) : g16 n key = some (findB n key) := by
  unfold g16 findB g16_j1
  rw [may_ok hf, Option.bind_some]
  by_cases hm : mayB n = true
  · rw [if_neg (by simp [hm])]
    cases hl : n.Leaf with
    | true =>
      have hle := lead_le false key (n.Pairs.map (·.Key))
      rw [List.length_map] at hle
      rw [if_neg (by decide), if_pos (show mayB n = true ∧ true = true from ⟨hm, rfl⟩), ahead_ok hf ((mayB_iff n).1 hm), hl, if_pos (show true = true from rfl), Option.bind_some, getI_nat]
      by_cases h : lead false key (n.Pairs.map (·.Key)) < n.Pairs.length
      · rw [if_pos (by omega), List.getElem?_eq_getElem h, Option.bind_some]
        unfold g34
        rw [Option.bind_some]
        congr 2
        rw [decide_eq_decide]
        exact eq_cmp _ _
      · rw [if_neg (by omega), List.getElem?_eq_none (by omega)]
    | false => rw [if_pos (by decide), if_neg (show ¬ (mayB n = true ∧ false = true) by simp)]
  · rw [if_pos hm, if_pos rfl, if_neg (fun h => hm h.1)]
/-! ### Kid -/
theorem refKid_no {n : T_api_Node} (hf : Fine n) (key : List Int) (hm : ¬ mayB n = true) : g19 n key = some 0 := by
  obtain ⟨f, hF⟩ : ∃ f, FUEL = f + 1 := ⟨FUEL - 1, by unfold FUEL; decide⟩
  unfold g19
  rw [hF]
  show g19_l1B n key (g19_l1 n key f) 0 = _
  unfold g19_l1B
  rw [refMay_ok hf, Option.bind_some, if_neg hm]
theorem refKid_loop {n : T_api_Node} (hf : Fine n) (key : List Int) (hm : mayB n = true) : ∀ (fuel i : Nat), i ≤ n.Keys.length → n.Keys.length - i < fuel →
    g19_l1 n key fuel (i : Int) = some ((i + lead true key (n.Keys.drop i) : Nat) : Int) := by
  have f2 := hf.2.1
  intro fuel
  induction fuel with
  | zero => intro i _ h; omega
  | succ f ih =>
    intro i hi hfu
    show g19_l1B n key (g19_l1 n key f) (i : Int) = _
    unfold g19_l1B
    rw [refMay_ok hf, Option.bind_some, if_pos hm]
    by_cases h : i < n.Keys.length
    · have hx := List.getElem?_eq_getElem h
      rw [if_pos (by omega), getI_nat, hx, Option.bind_some, less_ok, List.drop_eq_getElem_cons h, lead_cons]
      by_cases hg : goesP true (cmpB n.Keys[i] key)
      · rw [if_pos ((leq_goes _ _).2 hg), if_pos hg, i64_in _ (by omega), show (i : Int) + 1 = ((i + 1 : Nat) : Int) by omega, ih (i + 1) (by omega) (by omega)]
        congr 2
        omega
      · rw [if_neg (fun h => hg ((leq_goes _ _).1 h)), if_neg hg]
        rfl
    · rw [if_neg (by omega), List.drop_of_length_le (by omega)]
      rfl
theorem Kid_same {n : T_api_Node} (hf : Fine n) (key : List Int) : g13 n key = g19 n key := by
  rw [Kid_ok hf]
  by_cases hm : mayB n = true
  · unfold g19
    have L := refKid_loop hf key hm FUEL 0 (by omega) (by have := hf.2.1; unfold FUEL; omega)
    rw [List.drop_zero, Nat.zero_add] at L
    rw [show g19_l1 n key FUEL 0 = _ from L]
    cases hl : n.Leaf with
    | true =>
      rw [if_neg (by simp), (((mayB_iff n).1 hm).leaf hl).2.2.1]
      rfl
    | false => rw [if_pos (show mayB n = true ∧ false = false from ⟨hm, rfl⟩)]
  · rw [if_neg (fun h => hm h.1), refKid_no hf key hm]
/-! ### own -/
theorem concat_two (b : List Int) (hb : b.length ≤ 1000) : g95 ([[], b] : List (List Int)) = some b := by
  obtain ⟨f, hF⟩ : ∃ f, FUEL = f + 3 := ⟨FUEL - 3, by unfold FUEL; decide⟩
  have a0 : appI ([] : List Int) [] 1 = some [] := by rw [appI_ok (by simp)]; rfl
  have a1 : appI ([] : List Int) b 1 = some b := by rw [appI_ok (by simp; omega)]; rfl
  have l3 : g95_l3 ([[], b] : List (List Int)) FUEL [] 0 = some b := by
    rw [hF]
    show g95_l3B ([[], b] : List (List Int)) (g95_l3 ([[], b] : List (List Int)) (f + 2)) [] 0 = _
    unfold g95_l3B
    rw [if_pos (by simp), show getI ([[], b] : List (List Int)) 0 = some [] from rfl, Option.bind_some, a0, Option.bind_some]
    show g95_l3B ([[], b] : List (List Int)) (g95_l3 ([[], b] : List (List Int)) (f + 1)) [] 1 = _
    unfold g95_l3B
    rw [if_pos (by simp), show getI ([[], b] : List (List Int)) 1 = some b from rfl, Option.bind_some, a1, Option.bind_some]
    show g95_l3B ([[], b] : List (List Int)) (g95_l3 ([[], b] : List (List Int)) f) b 2 = _
    unfold g95_l3B
    rw [if_neg (by simp)]
  unfold g95
  rw [hF]
  show g95_l1B ([[], b] : List (List Int)) (g95_l1 ([[], b] : List (List Int)) (f + 2)) 0 0 = _
  unfold g95_l1B
  rw [if_pos (by simp), show getI ([[], b] : List (List Int)) 0 = some [] from rfl, Option.bind_some, show IntKind.i64.wrap ((0 : Int) + (([] : List Int).length : Int)) = 0 from rfl, if_neg (by decide)]
  show g95_l1B ([[], b] : List (List Int)) (g95_l1 ([[], b] : List (List Int)) (f + 1)) 0 1 = _
  unfold g95_l1B
  rw [if_pos (by simp), show getI ([[], b] : List (List Int)) 1 = some b from rfl, Option.bind_some, i64_in ((0 : Int) + (b.length : Int)) (by omega), if_neg (by omega), Int.zero_add]
  show g95_l1B ([[], b] : List (List Int)) (g95_l1 ([[], b] : List (List Int)) f) (b.length : Int) 2 = _
  unfold g95_l1B
  rw [if_neg (by simp), if_neg (by omega), i64_in ((b.length : Int) - 0) (by omega), Int.sub_zero]
  unfold g95_j2
  by_cases h : (b.length : Int) > 0
  · rw [if_pos h, show appZI ([] : List Int) (b.length : Int) 0 1 = some (List.replicate b.length 0) from (by
      unfold appZI
      rw [if_pos (by simp; omega)]
      simp), Option.bind_some, if_pos (by omega)]
    exact l3
  · rw [if_neg h]
    exact l3
theorem own_ok (b : List Int) (hb : b.length ≤ 1000) : g60 b = some b := by unfold g60; rw [concat_two b hb]; rfl
theorem ownPair_ok {p : T_api_Pair} (h1 : p.Key.length ≤ 1000) (h2 : p.Val.length ≤ 1000) : g57 p = some p := by
  unfold g57
  rw [own_ok _ h1, Option.bind_some, own_ok _ h2]
  rfl
/-! ### Same -/
theorem refSame_refl {n : T_api_Node} (hf : Fine n) : g20 n n = some true := by
  obtain ⟨f1, f2, f3⟩ := hf
  have l4 : g20_l4 n n FUEL 0 = some true := by
    have := scanC (xs := n.Kids) (fun _ => False) (g20_l4 n n) (fun _ => some false) (some false) (some true) (by unfold FUEL; omega) (fun _ _ => rfl)
      (fun f i x hx => by
        have hi := (List.getElem?_eq_some_iff.1 hx).1
        show g20_l4B n n (g20_l4 n n f) (i : Int) = _
        unfold g20_l4B
        rw [if_pos (by omega), getI_nat, hx, Option.bind_some, Option.bind_some, if_neg (by simp), if_neg (fun h => h), i64_in _ (by omega), show (i : Int) + 1 = ((i + 1 : Nat) : Int) by omega])
      (fun f => by
        show g20_l4B n n (g20_l4 n n f) (n.Kids.length : Int) = _
        unfold g20_l4B
        rw [if_neg (by omega)])
    rw [this, if_pos (fun _ _ h => h)]
  have l3 : g20_l3 n n FUEL 0 = some true := by
    have := scanC (xs := n.Keys) (fun _ => False) (g20_l3 n n) (fun _ => some false) (some false) (some true) (by unfold FUEL; omega) (fun _ _ => rfl)
      (fun f i x hx => by
        have hi := (List.getElem?_eq_some_iff.1 hx).1
        show g20_l3B n n (g20_l3 n n f) (i : Int) = _
        unfold g20_l3B
        rw [if_pos (by omega), getI_nat, hx, Option.bind_some, Option.bind_some, if_neg (by simp), if_neg (fun h => h), i64_in _ (by omega), show (i : Int) + 1 = ((i + 1 : Nat) : Int) by omega])
      (fun f => by
        show g20_l3B n n (g20_l3 n n f) (n.Keys.length : Int) = _
        unfold g20_l3B
        rw [if_neg (by omega), l4])
    rw [this, if_pos (fun _ _ h => h)]
  unfold g20 g20_j1
  rw [if_neg (by simp), if_neg (by simp), if_neg (by simp), if_neg (by simp)]
  have := scanC (xs := n.Pairs) (fun _ => False) (g20_l2 n n) (fun _ => some false) (some false) (some true) (by unfold FUEL; omega) (fun _ _ => rfl)
    (fun f i x hx => by
      have hi := (List.getElem?_eq_some_iff.1 hx).1
      show g20_l2B n n (g20_l2 n n f) (i : Int) = _
      unfold g20_l2B
      rw [if_pos (by omega), getI_nat, hx, Option.bind_some, Option.bind_some, if_neg (by simp), Option.bind_some, Option.bind_some, if_neg (by simp), if_neg (fun h => h), i64_in _ (by omega), show (i : Int) + 1 = ((i + 1 : Nat) : Int) by omega])
    (fun f => by
      show g20_l2B n n (g20_l2 n n f) (n.Pairs.length : Int) = _
      unfold g20_l2B
      rw [if_neg (by omega), l3])
  rw [this, if_pos (fun _ _ h => h)]
/-! ### The law -/
theorem finds_j5 (ps : List T_api_Pair) (h : ps.length ≤ 300) : g4_j5 ps ps = some true := by
  unfold g4_j5 g21 g4_j3
  rw [Option.bind_some, refSame_refl ⟨by show ps.length < _; omega, by show (0 : Nat) < _; omega, by show (0 : Nat) < _; omega⟩]
  rfl
theorem finds_l6 {n : T_api_Node} (hw : fewN n) (m : Nat) (hm : m < 256) : ∀ (fuel i : Nat), i ≤ n.Pairs.length → n.Pairs.length - i < fuel → i ≤ m →
    g4_l6 n (m : Int) (n.Pairs.take m) fuel (i : Int) (n.Pairs.take i) = some true := by
  have f1 := hw.1
  intro fuel
  induction fuel with
  | zero => intro i _ h; omega
  | succ f ih =>
    intro i hi hfu him
    show g4_l6B n (m : Int) (n.Pairs.take m) (g4_l6 n (m : Int) (n.Pairs.take m) f) (i : Int) (n.Pairs.take i) = _
    unfold g4_l6B
    have hlen : (n.Pairs.take i).length = i := by rw [List.length_take]; omega
    by_cases h : i < n.Pairs.length
    · have hx := List.getElem?_eq_getElem h
      have hp := hw.2.2.2.1 _ (List.getElem_mem h)
      rw [if_pos (by omega), getI_nat, hx, Option.bind_some, ownPair_ok (by omega) (by omega), Option.bind_some, hlen, i64_in (m : Int) (by omega)]
      by_cases hc : (i : Int) ≥ (m : Int)
      · obtain rfl : i = m := by omega
        rw [if_pos hc]
        exact finds_j5 _ (by omega)
      · rw [if_neg hc, appI_ok (by rw [hlen]; simp; omega), Option.bind_some, List.take_append_getElem h, i64_in ((i : Int) + 1) (by omega), show (i : Int) + 1 = ((i + 1 : Nat) : Int) by omega]
        exact ih (i + 1) (by omega) (by omega) (by omega)
    · rw [if_neg (by omega), List.take_of_length_le (show n.Pairs.length ≤ i by omega), List.take_of_length_le (show n.Pairs.length ≤ m by omega)]
      exact finds_j5 _ (by omega)
theorem finds_j4 {n : T_api_Node} (hw : fewN n) (m : Nat) (hm : m < 256) (hb : mayB n = true) :
    g4_j4 n (m : Int) n.Pairs (if (m : Int) < (n.Pairs.length : Int) then (m : Int) else (n.Pairs.length : Int)) n.Pairs = some true := by
  have f1 := hw.1
  unfold g4_j4 g21
  rw [Option.bind_some, refSame_refl ⟨by show n.Pairs.length < _; omega, by show (0 : Nat) < _; omega, by show (0 : Nat) < _; omega⟩, Option.bind_some, if_pos rfl]
  have hc : cutI n.Pairs 0 (if (m : Int) < (n.Pairs.length : Int) then (m : Int) else (n.Pairs.length : Int)) = some (n.Pairs.take m) := by
    by_cases h : (m : Int) < (n.Pairs.length : Int)
    · rw [if_pos h, cutI_to (by omega)]
    · rw [if_neg h, cutI_to (Nat.le_refl _), List.take_of_length_le (Nat.le_refl _), List.take_of_length_le (by omega)]
  rw [hc, Option.bind_some, may_ok hw.fine, Option.bind_some, if_neg (by simp [hb])]
  have := finds_l6 hw m hm FUEL 0 (by omega) (by unfold FUEL; omega) (by omega)
  rw [List.take_zero] at this
  exact this
theorem finds_l7 {n : T_api_Node} (hw : fewN n) (m : Nat) (hm : m < 256) (hb : mayB n = true) : ∀ (fuel i : Nat), i ≤ n.Pairs.length → n.Pairs.length - i < fuel →
    g4_l7 n (m : Int) n.Pairs (if (m : Int) < (n.Pairs.length : Int) then (m : Int) else (n.Pairs.length : Int)) fuel (i : Int) (n.Pairs.take i) = some true := by
  have f1 := hw.1
  intro fuel
  induction fuel with
  | zero => intro i _ h; omega
  | succ f ih =>
    intro i hi hfu
    show g4_l7B n (m : Int) n.Pairs (if (m : Int) < (n.Pairs.length : Int) then (m : Int) else (n.Pairs.length : Int)) (g4_l7 n (m : Int) n.Pairs (if (m : Int) < (n.Pairs.length : Int) then (m : Int) else (n.Pairs.length : Int)) f) (i : Int) (n.Pairs.take i) = _
    unfold g4_l7B
    have hlen : (n.Pairs.take i).length = i := by rw [List.length_take]; omega
    by_cases h : i < n.Pairs.length
    · have hx := List.getElem?_eq_getElem h
      have hp := hw.2.2.2.1 _ (List.getElem_mem h)
      rw [if_pos (by omega), getI_nat, hx, Option.bind_some, ownPair_ok (by omega) (by omega), Option.bind_some, hlen]
      rw [if_neg (by omega), appI_ok (by rw [hlen]; simp; omega), Option.bind_some, List.take_append_getElem h, i64_in ((i : Int) + 1) (by omega), show (i : Int) + 1 = ((i + 1 : Nat) : Int) by omega]
      exact ih (i + 1) (by omega) (by omega)
    · rw [if_neg (by omega), List.take_of_length_le (show n.Pairs.length ≤ i by omega)]
      exact finds_j4 hw m hm hb
theorem finds_j2 {n : T_api_Node} (hw : fewN n) (key : List Int) (m : Nat) (hm : m < 256) (r : Int × Bool) (kept : List T_api_Pair) (hk : kept = if mayB n = true then n.Pairs else []) :
    g4_j2 n key (m : Int) r r kept = some true := by
  have hf := hw.fine
  obtain ⟨v, hv⟩ : ∃ v, g13 n key = some v := ⟨_, Kid_ok hf key⟩
  unfold g4_j2
  rw [i64_in (m : Int) (by omega), Option.bind_some, if_pos rfl, if_pos rfl, ← Kid_same hf, hv, Option.bind_some, Option.bind_some, if_pos rfl, may_ok hf, Option.bind_some]
  by_cases h : mayB n = true
  · rw [if_neg (by simp [h]), hk, if_pos h]
    have := finds_l7 hw m hm h FUEL 0 (by omega) (by have := hw.1; unfold FUEL; omega)
    rw [List.take_zero] at this
    exact this
  · rw [if_pos h, hk, if_neg h]
    unfold g4_j4 g21
    rw [Option.bind_some, refSame_refl ⟨by show (0 : Nat) < _; omega, by show (0 : Nat) < _; omega, by show (0 : Nat) < _; omega⟩, Option.bind_some, if_pos rfl]
    have hc : cutI ([] : List T_api_Pair) 0 (if (m : Int) < (([] : List T_api_Pair).length : Int) then (m : Int) else (([] : List T_api_Pair).length : Int)) = some [] := by
      rw [if_neg (by simp)]
      rfl
    rw [hc, Option.bind_some, may_ok hf, Option.bind_some, if_pos h]
    exact finds_j5 _ (by simp)
theorem Pure.NodeFinds (p0 : T_api_Node) (p1 : List Int) (p2 : Int) (h0 : okN p0) (h1 : okB p1) (h2 : (Lit.int .u8 p2).wf = true) : g4 p0 p1 p2 = some true := by
  have jt : g4_j1 p0 p1 p2 true = some true := by
    unfold g4_j1
    rw [if_pos rfl, live_ok]; rfl
  have hp2 := wf_u8 h2
  obtain ⟨m, rfl⟩ : ∃ m : Nat, p2 = (m : Int) := ⟨p2.toNat, by omega⟩
  unfold g4
  rw [live_ok, Option.bind_some, if_neg (by simp), few_ok _ (by simp), Option.bind_some]
  by_cases hw : ∀ n ∈ [p0], fewN n
  · have hw0 := hw p0 (by simp)
    have hf := hw0.fine
    rw [decide_eq_true hw, if_neg (by simp)]
    by_cases hl : (p1.length : Int) > 300
    · rw [decide_eq_true hl, jt]
    · rw [decide_eq_false hl]
      unfold g4_j1
      rw [if_neg (by decide), Find_ok hf, Option.bind_some, refFind_ok hf, Option.bind_some, refMay_ok hf]
      cases hleaf : p0.Leaf with
      | true =>
        rw [if_pos rfl, Option.bind_some]
        by_cases hm : mayB p0 = true
        · rw [if_pos hm]
          exact finds_j2 hw0 _ m (by omega) _ _ (by rw [if_pos hm])
        · rw [if_neg hm]
          exact finds_j2 hw0 _ m (by omega) _ _ (by rw [if_neg hm])
      | false =>
        rw [if_neg (by decide)]
        refine finds_j2 hw0 _ m (by omega) _ _ ?_
        by_cases hm : mayB p0 = true
        · rw [if_pos hm, (((mayB_iff p0).1 hm).inner hleaf).2.1]
        · rw [if_neg hm]
  · rw [decide_eq_false hw, if_pos (by simp), jt]
end Go.Proofs.Ytefjbhogpgihaaa
