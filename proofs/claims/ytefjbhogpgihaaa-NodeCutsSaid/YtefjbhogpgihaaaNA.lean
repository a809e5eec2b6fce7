/- Plain laws of node: which nodes may be; how many bytes they have; how many keys stand ahead of one. -/
import Derived.Test.YtefjbhogpgihaaaG
import Derived.Test.YtefjbhogpgihaaaSXy
set_option linter.unusedVariables false
set_option maxRecDepth 20000
namespace Go.Proofs.Ytefjbhogpgihaaa
open Go Go.SX
/-- The first place where something holds. -/
theorem scanL {τ ρ : Type} {xs : List τ} (p : τ → Prop) [DecidablePred p] (L : Nat → Int → Option ρ) (out : Nat → Option ρ) (done : Option ρ)
    (step : ∀ n (i : Nat) x, xs[i]? = some x → L (n + 1) (i : Int) = if p x then out i else L n ((i + 1 : Nat) : Int)) (stop : ∀ n, L (n + 1) (xs.length : Int) = done) :
    ∀ (fuel i : Nat), i ≤ xs.length → xs.length - i < fuel →
      (∃ j x, i ≤ j ∧ xs[j]? = some x ∧ p x ∧ (∀ k y, i ≤ k → k < j → xs[k]? = some y → ¬ p y) ∧ L fuel (i : Int) = out j) ∨ ((∀ x ∈ xs.drop i, ¬ p x) ∧ L fuel (i : Int) = done) := by
  intro fuel
  induction fuel with
  | zero => intro i _ h; omega
  | succ n ih =>
    intro i hi hf
    by_cases h : i < xs.length
    · have hx := List.getElem?_eq_getElem h
      rw [step n i _ hx]
      by_cases hp : p xs[i]
      · rw [if_pos hp]
        exact .inl ⟨i, _, Nat.le_refl _, hx, hp, fun k y h1 h2 => by omega, rfl⟩
      · rw [if_neg hp]
        rcases ih (i + 1) (by omega) (by omega) with ⟨j, x, h1, h2, h3, h4, h5⟩ | ⟨h1, h2⟩
        · refine .inl ⟨j, x, by omega, h2, h3, fun k y k1 k2 ky => ?_, h5⟩
          by_cases hk : k = i
          · subst hk
            rw [hx] at ky
            cases ky
            exact hp
          · exact h4 k y (by omega) k2 ky
        · refine .inr ⟨fun x hx2 => ?_, h2⟩
          rw [List.drop_eq_getElem_cons h] at hx2
          rcases List.mem_cons.1 hx2 with rfl | hx2
          · exact hp
          · exact h1 x hx2
    · obtain rfl : i = xs.length := by omega
      refine .inr ⟨by simp, stop n⟩
theorem scanC {τ ρ : Type} {xs : List τ} (p : τ → Prop) [DecidablePred p] (L : Nat → Int → Option ρ) (out : Nat → Option ρ) (c done : Option ρ) (hlen : xs.length < FUEL) (hc : ∀ i, i < xs.length → out i = c)
    (step : ∀ n (i : Nat) x, xs[i]? = some x → L (n + 1) (i : Int) = if p x then out i else L n ((i + 1 : Nat) : Int)) (stop : ∀ n, L (n + 1) (xs.length : Int) = done) :
    L FUEL 0 = if (∀ x ∈ xs, ¬ p x) then done else c := by
  rcases scanL p L out done step stop FUEL 0 (by omega) (by omega) with ⟨j, x, _, h2, h3, _, h5⟩ | ⟨h1, h2⟩
  · rw [if_neg (fun h => h x (List.mem_of_getElem? h2) h3), ← hc j (List.getElem?_eq_some_iff.1 h2).1]; exact h5
  · rw [List.drop_zero] at h1
    rw [if_pos h1]; exact h2
def isKeyP (k : List Int) : Prop := 0 < k.length ∧ k.length ≤ 25
instance (k : List Int) : Decidable (isKeyP k) := by unfold isKeyP; infer_instance
theorem isKey_ok (k : List Int) : g78 k = some (decide (isKeyP k)) := by
  unfold g78
  by_cases h : (k.length : Int) > 0
  · rw [if_pos h]; congr 1; rw [decide_eq_decide]; unfold isKeyP; omega
  · rw [if_neg h]; congr 1; rw [eq_comm, decide_eq_false_iff_not]; unfold isKeyP; omega
/-- Keys, and rising, behind one. -/
def rise : Option (List Int) → List (List Int) → Prop
  | _, [] => True
  | last, k :: ks => isKeyP k ∧ (∀ l, last = some l → cmpB l k < 0) ∧ rise (some k) ks
instance decRise : ∀ (last : Option (List Int)) (ks : List (List Int)), Decidable (rise last ks)
  | _, [] => .isTrue trivial
  | last, k :: ks => by
    unfold rise
    haveI := decRise (some k) ks
    haveI : Decidable (∀ l, last = some l → cmpB l k < 0) := match last with
      | none => .isTrue fun _ h => by cases h
      | some l => if h : cmpB l k < 0 then .isTrue fun _ e => by cases e; exact h else .isFalse fun f => h (f l rfl)
    infer_instance
def lastOf (last : List Int) (z : Bool) : Option (List Int) := if z then none else some last
structure MayP (n : T_api_Node) : Prop where
  keys : rise none (n.Pairs.map (·.Key) ++ n.Keys)
  leaf : n.Leaf = true → (∀ p ∈ n.Pairs, p.Val.length ≤ 24) ∧ n.Pairs.length ≤ 255 ∧ n.Keys = [] ∧ n.Kids = []
  inner : n.Leaf = false → (∀ k ∈ n.Kids, 2 ≤ k ∧ k < 2048) ∧ n.Pairs = [] ∧ 0 < n.Keys.length ∧ n.Keys.length ≤ 255 ∧ n.Kids.length = n.Keys.length + 1
open Classical in
noncomputable def mayB (n : T_api_Node) : Bool := decide (MayP n)
/-- So few that numbers do not wrap. -/
def Fine (n : T_api_Node) : Prop := n.Pairs.length < 4000000000000000000 ∧ n.Keys.length < 4000000000000000000 ∧ n.Kids.length < 4000000000000000000
theorem isKid_ok (k : Int) : g93 k = some (decide (¬ (2 ≤ k ∧ k < 2048))) := by
  unfold g93 g83
  by_cases h : k ≥ 2
  · rw [if_pos h, Option.bind_some]; congr 1; rw [decide_eq_decide]; simp; omega
  · rw [if_neg h, Option.bind_some]; congr 1; rw [decide_eq_decide]; simp; omega
theorem may_j1 {n : T_api_Node} (hf : Fine n) (c : Bool) (hc : c = true ↔ rise none (n.Pairs.map (·.Key) ++ n.Keys)) : g50_j1 n c = some (mayB n) := by
  obtain ⟨f1, f2, f3⟩ := hf
  unfold g50_j1 mayB
  by_cases h : c = true
  · rw [if_neg (by simp [h])]
    have hr := hc.1 h
    cases hl : n.Leaf with
    | true =>
      rw [if_pos rfl]
      have s := scanC (xs := n.Pairs) (fun p => (p.Val.length : Int) > 24) (g50_l4 n) (fun i => g50_j2 n (i : Int)) (some false) (g50_j2 n (-1)) (by unfold FUEL; omega)
        (fun i _ => by unfold g50_j2; rw [if_neg (by omega)]; rfl)
        (fun f i x hx => by
          have hi := (List.getElem?_eq_some_iff.1 hx).1
          show g50_l4B n (g50_l4 n f) (i : Int) = _
          unfold g50_l4B g91
          rw [if_pos (by omega), getI_nat, hx, Option.bind_some, Option.bind_some, i64_in _ (by omega), show (i : Int) + 1 = ((i + 1 : Nat) : Int) by omega]
          by_cases hv : (x.Val.length : Int) > 24
          · rw [if_pos (by simpa using hv), if_pos hv]
          · rw [if_neg (by simpa using hv), if_neg hv])
        (fun f => by
          show g50_l4B n (g50_l4 n f) (n.Pairs.length : Int) = _
          unfold g50_l4B
          rw [if_neg (by omega)])
      rw [s]
      by_cases hv : ∀ x ∈ n.Pairs, ¬ (x.Val.length : Int) > 24
      · rw [if_pos hv]
        unfold g50_j2
        rw [if_pos (by omega)]
        have e : IntKind.i64.wrap ((n.Keys.length : Int) + (n.Kids.length : Int)) = (n.Keys.length : Int) + (n.Kids.length : Int) := i64_in _ (by omega)
        rw [e, Option.bind_some]
        by_cases h255 : (n.Pairs.length : Int) ≤ 255
        · rw [if_pos h255]
          unfold g50_j3
          congr 1
          rw [decide_eq_decide]
          constructor
          · intro h0
            exact ⟨hr, fun _ => ⟨fun p hp => by have := hv p hp; omega, by omega, List.eq_nil_of_length_eq_zero (by omega), List.eq_nil_of_length_eq_zero (by omega)⟩, fun hh => by rw [hl] at hh; cases hh⟩
          · intro m
            obtain ⟨_, _, h3, h4⟩ := m.leaf hl
            rw [h3, h4]; rfl
        · rw [if_neg h255]
          unfold g50_j3
          congr 1
          rw [eq_comm, decide_eq_false_iff_not]
          intro m
          have := (m.leaf hl).2.1
          omega
      · rw [if_neg hv]
        congr 1
        rw [eq_comm, decide_eq_false_iff_not]
        intro m
        exact hv fun x hx => by have := (m.leaf hl).1 x hx; omega
    | false =>
      rw [if_neg (by decide)]
      have s := scanC (xs := n.Kids) (fun k => ¬ (2 ≤ k ∧ k < 2048)) (g50_l7 n) (fun i => g50_j5 n (i : Int)) (some false) (g50_j5 n (-1)) (by unfold FUEL; omega)
        (fun i _ => by unfold g50_j5; rw [if_neg (by omega)]; rfl)
        (fun f i x hx => by
          have hi := (List.getElem?_eq_some_iff.1 hx).1
          show g50_l7B n (g50_l7 n f) (i : Int) = _
          unfold g50_l7B
          rw [if_pos (by omega), getI_nat, hx, Option.bind_some, isKid_ok, Option.bind_some, i64_in _ (by omega), show (i : Int) + 1 = ((i + 1 : Nat) : Int) by omega]
          by_cases hv : ¬ (2 ≤ x ∧ x < 2048)
          · rw [if_pos (decide_eq_true hv), if_pos hv]
          · rw [if_neg (by simpa using hv), if_neg hv])
        (fun f => by
          show g50_l7B n (g50_l7 n f) (n.Kids.length : Int) = _
          unfold g50_l7B
          rw [if_neg (by omega)])
      rw [s]
      by_cases hv : ∀ x ∈ n.Kids, ¬ ¬ (2 ≤ x ∧ x < 2048)
      · rw [if_pos hv]
        unfold g50_j5 g50_j6
        rw [if_pos (by omega)]
        by_cases c1 : (n.Pairs.length : Int) = 0
        · rw [if_pos c1]
          by_cases c2 : (n.Keys.length : Int) > 0
          · rw [if_pos c2]
            by_cases c3 : (n.Keys.length : Int) ≤ 255
            · rw [if_pos c3, i64_in _ (by omega)]
              congr 1
              rw [decide_eq_decide]
              constructor
              · intro h0
                exact ⟨hr, fun hh => (by rw [hl] at hh; cases hh), fun _ => ⟨fun k hk => Decidable.not_not.1 (hv k hk), List.eq_nil_of_length_eq_zero (by omega), by omega, by omega, by omega⟩⟩
              · intro m
                have := (m.inner hl).2.2.2.2
                omega
            · rw [if_neg c3]
              congr 1
              rw [eq_comm, decide_eq_false_iff_not]
              intro m
              have := (m.inner hl).2.2.2.1
              omega
          · rw [if_neg c2]
            congr 1
            rw [eq_comm, decide_eq_false_iff_not]
            intro m
            have := (m.inner hl).2.2.1
            omega
        · rw [if_neg c1]
          congr 1
          rw [eq_comm, decide_eq_false_iff_not]
          intro m
          have := (m.inner hl).2.1
          rw [this] at c1
          exact c1 rfl
      · rw [if_neg hv]
        congr 1
        rw [eq_comm, decide_eq_false_iff_not]
        intro m
        exact hv fun x hx => Decidable.not_not.2 ((m.inner hl).1 x hx)
  · rw [if_pos h]
    congr 1
    rw [eq_comm, decide_eq_false_iff_not]
    intro m
    exact h (hc.2 m.keys)
theorem may_l9 {n : T_api_Node} (hf : Fine n) : ∀ (fuel i : Nat) (last : List Int) (z : Bool), i ≤ n.Keys.length → n.Keys.length - i < fuel →
    g50_l9 n fuel (i : Int) last z = g50_j1 n (decide (rise (lastOf last z) (n.Keys.drop i))) := by
  intro fuel
  induction fuel with
  | zero => intro i last z _ h; omega
  | succ f ih =>
    intro i last z hi hfu
    have hf2 := hf.2.1
    show g50_l9B n (g50_l9 n f) (i : Int) last z = _
    unfold g50_l9B
    by_cases h : i < n.Keys.length
    · have hx := List.getElem?_eq_getElem h
      rw [if_pos (by omega), getI_nat, hx, Option.bind_some, isKey_ok, Option.bind_some, List.drop_eq_getElem_cons h, i64_in _ (by omega), show (i : Int) + 1 = ((i + 1 : Nat) : Int) by omega]
      by_cases hk : isKeyP n.Keys[i]
      · have hpos : 0 < n.Keys[i].length := hk.1
        have next : (if 0 < n.Keys[i].length then g50_l9 n f ((i + 1 : Nat) : Int) n.Keys[i] false else none) = g50_j1 n (decide (rise (some n.Keys[i]) (n.Keys.drop (i + 1)))) := by
          rw [if_pos hpos, ih (i + 1) _ _ (by omega) (by omega)]; rfl
        rw [if_neg (by simp [hk]), next]
        unfold g15
        cases z with
        | true =>
          rw [if_neg (by decide)]
          congr 1
          rw [decide_eq_decide]
          exact ⟨fun h => ⟨hk, fun l hl => (by cases hl), h⟩, fun h => h.2.2⟩
        | false =>
          rw [if_pos (by decide), Option.bind_some]
          by_cases hc : cmpB last n.Keys[i] ≥ 0
          · rw [if_pos hc]
            congr 1
            rw [eq_comm, decide_eq_false_iff_not]
            intro h0
            have := h0.2.1 last rfl
            omega
          · rw [if_neg hc]
            congr 1
            rw [decide_eq_decide]
            exact ⟨fun h => ⟨hk, fun l hl => (by cases hl; omega), h⟩, fun h => h.2.2⟩
      · rw [if_pos (by simp [hk])]
        congr 1
        rw [eq_comm, decide_eq_false_iff_not]
        exact fun h0 => hk h0.1
    · rw [if_neg (by omega), List.drop_of_length_le (by omega)]
      congr 1
theorem may_l8 {n : T_api_Node} (hf : Fine n) : ∀ (fuel i : Nat) (last : List Int) (z : Bool), i ≤ n.Pairs.length → n.Pairs.length - i < fuel →
    g50_l8 n fuel (i : Int) last z = g50_j1 n (decide (rise (lastOf last z) ((n.Pairs.drop i).map (·.Key) ++ n.Keys))) := by
  intro fuel
  induction fuel with
  | zero => intro i last z _ h; omega
  | succ f ih =>
    intro i last z hi hfu
    have hf2 := hf.1
    show g50_l8B n (g50_l8 n f) (i : Int) last z = _
    unfold g50_l8B
    by_cases h : i < n.Pairs.length
    · have hx := List.getElem?_eq_getElem h
      rw [if_pos (by omega), getI_nat, hx, Option.bind_some, isKey_ok, Option.bind_some, List.drop_eq_getElem_cons h, List.map_cons, List.cons_append, i64_in _ (by omega), show (i : Int) + 1 = ((i + 1 : Nat) : Int) by omega]
      by_cases hk : isKeyP n.Pairs[i].Key
      · have hpos : 0 < n.Pairs[i].Key.length := hk.1
        have next : (if 0 < n.Pairs[i].Key.length then g50_l8 n f ((i + 1 : Nat) : Int) n.Pairs[i].Key false else none) = g50_j1 n (decide (rise (some n.Pairs[i].Key) ((n.Pairs.drop (i + 1)).map (·.Key) ++ n.Keys))) := by
          rw [if_pos hpos, ih (i + 1) _ _ (by omega) (by omega)]; rfl
        rw [if_neg (by simp [hk]), next]
        unfold g15
        cases z with
        | true =>
          rw [if_neg (by decide)]
          congr 1
          rw [decide_eq_decide]
          exact ⟨fun h => ⟨hk, fun l hl => (by cases hl), h⟩, fun h => h.2.2⟩
        | false =>
          rw [if_pos (by decide), Option.bind_some]
          by_cases hc : cmpB last n.Pairs[i].Key ≥ 0
          · rw [if_pos hc]
            congr 1
            rw [eq_comm, decide_eq_false_iff_not]
            intro h0
            have := h0.2.1 last rfl
            omega
          · rw [if_neg hc]
            congr 1
            rw [decide_eq_decide]
            exact ⟨fun h => ⟨hk, fun l hl => (by cases hl; omega), h⟩, fun h => h.2.2⟩
      · rw [if_pos (by simp [hk])]
        congr 1
        rw [eq_comm, decide_eq_false_iff_not]
        exact fun h0 => hk h0.1
    · rw [if_neg (by omega), List.drop_of_length_le (by omega)]
      have := may_l9 hf FUEL 0 last z (by omega) (by have := hf.2.1; unfold FUEL; omega)
      rw [List.drop_zero] at this
      exact this
theorem may_ok {n : T_api_Node} (hf : Fine n) : g50 n = some (mayB n) := by
  unfold g50
  have := may_l8 hf FUEL 0 [] true (by omega) (by have := hf.1; unfold FUEL; omega)
  rw [List.drop_zero] at this
  rw [show (0 : Int) = ((0 : Nat) : Int) from rfl, this]
  exact may_j1 hf _ (by rw [decide_eq_true_eq]; exact Iff.rfl)
open Classical in
theorem mayB_iff (n : T_api_Node) : mayB n = true ↔ MayP n := by unfold mayB; exact decide_eq_true_iff
theorem rise_keys : ∀ (last : Option (List Int)) (ks : List (List Int)), rise last ks → ∀ k ∈ ks, isKeyP k
  | _, [], _, k, h => by cases h
  | last, a :: ks, h, k, hk => by
    rcases List.mem_cons.1 hk with rfl | hk
    · exact h.1
    · exact rise_keys _ ks h.2.2 k hk
/-- How many bytes. -/
def widths (n : T_api_Node) : List Nat := if n.Leaf then n.Pairs.map (fun p => 2 + p.Key.length + p.Val.length) else n.Keys.map (fun k => 3 + k.length)
def sizeN (n : T_api_Node) : Nat := (if n.Leaf then 1 else 3) + (widths n).sum
theorem widths_le {n : T_api_Node} (m : MayP n) : (∀ w ∈ widths n, w ≤ 51) ∧ (widths n).length ≤ 255 ∧ ((n.Pairs.length : Int) + (n.Keys.length : Int)) = ((widths n).length : Int) := by
  have hk := rise_keys _ _ m.keys
  unfold widths
  cases hl : n.Leaf with
  | true =>
    obtain ⟨h1, h2, h3, h4⟩ := m.leaf hl
    refine ⟨?_, by simpa using h2, by simp [h3]⟩
    intro w hw
    simp only [if_true, List.mem_map] at hw
    obtain ⟨p, hp, rfl⟩ := hw
    have a := h1 p hp
    have b := (hk p.Key (List.mem_append_left _ (List.mem_map_of_mem hp))).2
    omega
  | false =>
    obtain ⟨h1, h2, h3, h4, h5⟩ := m.inner hl
    refine ⟨?_, by simpa using h4, by simp [h2]⟩
    intro w hw
    simp only [Bool.false_eq_true, if_false, List.mem_map] at hw
    obtain ⟨k, hk2, rfl⟩ := hw
    have b := (hk k (List.mem_append_right _ hk2)).2
    omega
theorem width_ok {n : T_api_Node} (m : MayP n) {i : Nat} {w : Nat} (h : (widths n)[i]? = some w) : g94 n (i : Int) = some (w : Int) := by
  have hw := (widths_le m).1 w (List.mem_of_getElem? h)
  unfold g94
  unfold widths at h
  cases hl : n.Leaf with
  | true =>
    rw [hl] at h
    simp only [if_true, List.getElem?_map, Option.map_eq_some_iff] at h
    obtain ⟨p, hp, rfl⟩ := h
    rw [if_pos rfl, getI_nat, hp, Option.bind_some, Option.bind_some, i64_in (2 + (p.Key.length : Int)) (by omega), i64_in _ (by omega), Option.bind_some]
    congr 1
  | false =>
    rw [hl] at h
    simp only [Bool.false_eq_true, if_false, List.getElem?_map, Option.map_eq_some_iff] at h
    obtain ⟨k, hp, rfl⟩ := h
    rw [if_neg (by decide), getI_nat, hp, Option.bind_some, i64_in _ (by omega)]
    congr 1
theorem sum_le : ∀ (l : List Nat), (∀ w ∈ l, w ≤ 51) → l.sum ≤ 51 * l.length
  | [], _ => by simp
  | a :: l, h => by
    have := sum_le l fun w hw => h w (List.mem_cons_of_mem _ hw)
    have := h a (List.mem_cons_self ..)
    simp only [List.sum_cons, List.length_cons]
    omega
theorem size_loop {n : T_api_Node} (m : MayP n) : ∀ (fuel i s : Nat), i ≤ (widths n).length → (widths n).length - i < fuel → s ≤ 3 + 51 * i →
    g52_l2 n (((widths n).length : Nat) : Int) fuel (s : Int) (i : Int) = some ((s + ((widths n).drop i).sum : Nat) : Int) := by
  obtain ⟨w1, w2, w3⟩ := widths_le m
  intro fuel
  induction fuel with
  | zero => intro i s _ h; omega
  | succ f ih =>
    intro i s hi hf hs
    show g52_l2B n _ (g52_l2 n _ f) (s : Int) (i : Int) = _
    unfold g52_l2B
    by_cases h : i < (widths n).length
    · have hx := List.getElem?_eq_getElem h
      have hw := w1 _ (List.mem_of_getElem? hx)
      rw [if_pos (by omega), width_ok m hx, Option.bind_some, i64_in ((s : Int) + _) (by omega), i64_in _ (by omega), List.drop_eq_getElem_cons h, List.sum_cons]
      have := ih (i + 1) (s + (widths n)[i]) (by omega) (by omega) (by omega)
      rw [show (((s + (widths n)[i] : Nat)) : Int) = (s : Int) + ((widths n)[i] : Int) by omega, show (((i + 1 : Nat)) : Int) = (i : Int) + 1 by omega] at this
      rw [this, Nat.add_assoc]
    · rw [if_neg (by omega), List.drop_of_length_le (by omega)]
      simp
theorem size_ok {n : T_api_Node} (m : MayP n) : g52 n = some ((sizeN n : Nat) : Int) := by
  obtain ⟨w1, w2, w3⟩ := widths_le m
  have j1 : ∀ s : Nat, s ≤ 3 → g52_j1 n (s : Int) = some ((s + (widths n).sum : Nat) : Int) := by
    intro s hs
    unfold g52_j1 g66
    rw [w3, i64_in _ (by omega), Option.bind_some, Option.bind_some]
    have := size_loop m FUEL 0 s (by omega) (by unfold FUEL; omega) (by omega)
    rw [List.drop_zero] at this
    exact this
  unfold g52 sizeN
  cases hl : n.Leaf with
  | true => rw [if_neg (by simp), show (1 : Int) = ((1 : Nat) : Int) from rfl, j1 1 (by omega)]; rfl
  | false => rw [if_pos (by simp), show (3 : Int) = ((3 : Nat) : Int) from rfl, j1 3 (by omega)]; rfl
theorem size_pos (n : T_api_Node) : 0 < sizeN n := by unfold sizeN; split <;> omega
/-- What few asks of a node. -/
def fewN (n : T_api_Node) : Prop := n.Pairs.length ≤ 300 ∧ n.Keys.length ≤ 300 ∧ n.Kids.length ≤ 300 ∧ (∀ p ∈ n.Pairs, p.Key.length ≤ 300 ∧ p.Val.length ≤ 300) ∧ ∀ k ∈ n.Keys, k.length ≤ 300
theorem fewN.fine {n : T_api_Node} (h : fewN n) : Fine n := ⟨by have := h.1; omega, by have := h.2.1; omega, by have := h.2.2.1; omega⟩
instance (n : T_api_Node) : Decidable (fewN n) := by unfold fewN; infer_instance
theorem few_one {x : T_api_Node} (h1 : x.Pairs.length ≤ 300) (h2 : x.Keys.length ≤ 300) (i : Int) (rec : Int → Option Bool) :
    g12_l3 i rec x FUEL 0 = if ((∀ p ∈ x.Pairs, p.Key.length ≤ 300 ∧ p.Val.length ≤ 300) ∧ ∀ k ∈ x.Keys, k.length ≤ 300) then rec (IntKind.i64.wrap (i + 1)) else some false := by
  have s4 : g12_l4 i rec x FUEL 0 = if (∀ k ∈ x.Keys, ¬ (k.length : Int) > 300) then rec (IntKind.i64.wrap (i + 1)) else some false :=
    scanC (xs := x.Keys) (fun k => (k.length : Int) > 300) (g12_l4 i rec x) (fun _ => some false) (some false) (rec (IntKind.i64.wrap (i + 1))) (by unfold FUEL; omega) (fun _ _ => rfl)
      (fun f j y hy => by
        have hj := (List.getElem?_eq_some_iff.1 hy).1
        show g12_l4B i rec x (g12_l4 i rec x f) (j : Int) = _
        unfold g12_l4B
        rw [if_pos (by omega), getI_nat, hy, Option.bind_some, i64_in ((j : Int) + 1) (by omega), show (j : Int) + 1 = ((j + 1 : Nat) : Int) by omega])
      (fun f => by
        show g12_l4B i rec x (g12_l4 i rec x f) (x.Keys.length : Int) = _
        unfold g12_l4B
        rw [if_neg (by omega)])
  have s3 : g12_l3 i rec x FUEL 0 = if (∀ p ∈ x.Pairs, ¬ ((p.Key.length : Int) > 300 ∨ (p.Val.length : Int) > 300)) then g12_l4 i rec x FUEL 0 else some false :=
    scanC (xs := x.Pairs) (fun p => (p.Key.length : Int) > 300 ∨ (p.Val.length : Int) > 300) (g12_l3 i rec x) (fun _ => some false) (some false) (g12_l4 i rec x FUEL 0) (by unfold FUEL; omega) (fun _ _ => rfl)
      (fun f j y hy => by
        have hj := (List.getElem?_eq_some_iff.1 hy).1
        show g12_l3B i rec x (g12_l3 i rec x f) (j : Int) = _
        unfold g12_l3B
        rw [if_pos (by omega), getI_nat, hy, Option.bind_some, i64_in ((j : Int) + 1) (by omega), show (j : Int) + 1 = ((j + 1 : Nat) : Int) by omega]
        by_cases c1 : (y.Key.length : Int) > 300
        · rw [if_pos c1, if_pos (.inl c1)]
        · rw [if_neg c1]
          by_cases c2 : (y.Val.length : Int) > 300
          · rw [if_pos c2, if_pos (.inr c2)]
          · rw [if_neg c2, if_neg (by rintro (h | h); exact c1 h; exact c2 h)])
      (fun f => by
        show g12_l3B i rec x (g12_l3 i rec x f) (x.Pairs.length : Int) = _
        unfold g12_l3B
        rw [if_neg (by omega)])
  rw [s3, s4]
  by_cases a : ∀ p ∈ x.Pairs, p.Key.length ≤ 300 ∧ p.Val.length ≤ 300
  · rw [if_pos (fun p hp => by have := a p hp; omega)]
    by_cases b : ∀ k ∈ x.Keys, k.length ≤ 300
    · rw [if_pos (fun k hk => by have := b k hk; omega), if_pos ⟨a, b⟩]
    · rw [if_neg (fun h => b fun k hk => by have := h k hk; omega), if_neg (fun h => b h.2)]
  · rw [if_neg (fun h => a fun p hp => by have := h p hp; omega), if_neg (fun h => a h.1)]
theorem few_no {x : T_api_Node} {r : List T_api_Node} (hn : ¬ fewN x) : some false = some (decide (∀ n ∈ x :: r, fewN n)) := by
  congr 1
  rw [eq_comm, decide_eq_false_iff_not]
  exact fun hall => hn (hall _ (List.mem_cons_self ..))
theorem few_loop (l : List T_api_Node) (hb : l.length < 1000) : ∀ (fuel i : Nat), i ≤ l.length → l.length - i < fuel → g12_l1 l fuel (i : Int) = some (decide (∀ n ∈ l.drop i, fewN n)) := by
  intro fuel
  induction fuel with
  | zero => intro i _ h; omega
  | succ f ih =>
    intro i hi hf
    show g12_l1B l (g12_l1 l f) (i : Int) = _
    unfold g12_l1B
    by_cases h : i < l.length
    · have hx := List.getElem?_eq_getElem h
      rw [if_pos (by omega), getI_nat, hx, Option.bind_some, List.drop_eq_getElem_cons h]
      have no := few_no (x := l[i]) (r := l.drop (i + 1))
      by_cases c1 : (l[i].Pairs.length : Int) > 300
      · rw [if_pos c1]
        unfold g12_j2
        rw [if_pos rfl]
        exact no fun hn => by have := hn.1; omega
      · rw [if_neg c1]
        by_cases c2 : (l[i].Keys.length : Int) > 300
        · rw [if_pos c2]
          unfold g12_j2
          rw [if_pos rfl]
          exact no fun hn => by have := hn.2.1; omega
        · rw [if_neg c2]
          unfold g12_j2
          by_cases c3 : (l[i].Kids.length : Int) > 300
          · rw [if_pos (decide_eq_true c3)]
            exact no fun hn => by have := hn.2.2.1; omega
          · rw [if_neg (by simpa using c3), few_one (by omega) (by omega), i64_in ((i : Int) + 1) (by omega), show (i : Int) + 1 = ((i + 1 : Nat) : Int) by omega, ih (i + 1) (by omega) (by omega)]
            by_cases c4 : (∀ p ∈ l[i].Pairs, p.Key.length ≤ 300 ∧ p.Val.length ≤ 300) ∧ ∀ k ∈ l[i].Keys, k.length ≤ 300
            · rw [if_pos c4]
              congr 1
              rw [decide_eq_decide, List.forall_mem_cons]
              exact ⟨fun h => ⟨⟨by omega, by omega, by omega, c4.1, c4.2⟩, h⟩, fun h => h.2⟩
            · rw [if_neg c4]
              exact no fun hn => c4 ⟨hn.2.2.2.1, hn.2.2.2.2⟩
    · rw [if_neg (by omega), List.drop_of_length_le (by omega)]
      simp
theorem few_ok (l : List T_api_Node) (hb : l.length < 1000) : g12 l = some (decide (∀ n ∈ l, fewN n)) := by
  have := few_loop l hb FUEL 0 (by omega) (by unfold FUEL; omega)
  rw [List.drop_zero] at this
  exact this
theorem live_ok : g11 = some true := by kernel_rfl
end Go.Proofs.Ytefjbhogpgihaaa
