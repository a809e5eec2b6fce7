/- Plain laws of node: the child that a key leads to; NodeKids. -/
import Derived.Test.YtefjbhogpgihaaaNA
set_option linter.unusedVariables false
set_option maxRecDepth 20000
namespace Go.Proofs.Ytefjbhogpgihaaa
open Go Go.SX
def okB (l : List Int) : Prop := l.length ≤ 9223372036854775807 ∧ ∀ x ∈ l, (Lit.int .u8 x).wf = true
def okP (p : T_api_Pair) : Prop := okB p.Key ∧ okB p.Val
def okN (n : T_api_Node) : Prop := True ∧ (n.Pairs.length ≤ 9223372036854775807 ∧ ∀ p ∈ n.Pairs, okP p) ∧ (n.Keys.length ≤ 9223372036854775807 ∧ ∀ k ∈ n.Keys, okB k) ∧ (n.Kids.length ≤ 9223372036854775807 ∧ ∀ k ∈ n.Kids, (Lit.int .i64 k).wf = true)
/-- Does it stand ahead? -/
def goesP (too : Bool) (c : Int) : Prop := c < 0 ∨ c = 0 ∧ too = true
instance (too : Bool) (c : Int) : Decidable (goesP too c) := by unfold goesP; infer_instance
theorem goes_if {ρ : Type} {too : Bool} {c : Int} {a b : ρ} : (if c < 0 then (if c < 0 then a else b) else if c = 0 then (if too = true then a else b) else b) = if goesP too c then a else b := by
  by_cases h1 : c < 0
  · rw [if_pos h1, if_pos h1, if_pos (show goesP too c from .inl h1)]
  · rw [if_neg h1]
    by_cases h2 : c = 0
    · rw [if_pos h2]
      by_cases h3 : too = true
      · rw [if_pos h3, if_pos (show goesP too c from .inr ⟨h2, h3⟩)]
      · rw [if_neg h3, if_neg (show ¬ goesP too c by rintro (h | ⟨_, h⟩); exact h1 h; exact h3 h)]
    · rw [if_neg h2, if_neg (show ¬ goesP too c by rintro (h | ⟨h, _⟩); exact h1 h; exact h2 h)]
/-- How many of the first ones. -/
def lead (too : Bool) (key : List Int) (ks : List (List Int)) : Nat := (ks.takeWhile fun k => decide (goesP too (cmpB k key))).length
theorem lead_le (too : Bool) (key : List Int) (ks : List (List Int)) : lead too key ks ≤ ks.length := (List.takeWhile_sublist _).length_le
theorem lead_cons {too : Bool} {key k : List Int} {ks : List (List Int)} : lead too key (k :: ks) = if goesP too (cmpB k key) then lead too key ks + 1 else 0 := by
  unfold lead
  rw [List.takeWhile_cons]
  by_cases h : goesP too (cmpB k key) <;> simp [h]
theorem ahead_l3 {n : T_api_Node} (hf : Fine n) (key : List Int) (too : Bool) : ∀ (fuel i at_ : Nat), i ≤ n.Keys.length → n.Keys.length - i < fuel → at_ ≤ 4000000000000000000 + i →
    g51_l3 n key too fuel (i : Int) (at_ : Int) = some ((at_ + lead too key (n.Keys.drop i) : Nat) : Int) := by
  have f2 := hf.2.1
  intro fuel
  induction fuel with
  | zero => intro i a _ h; omega
  | succ f ih =>
    intro i a hi hfu ha
    show g51_l3B n key too (g51_l3 n key too f) (i : Int) (a : Int) = _
    unfold g51_l3B g51_j1 g15
    by_cases h : i < n.Keys.length
    · have hx := List.getElem?_eq_getElem h
      rw [if_pos (by omega), getI_nat, hx, Option.bind_some, Option.bind_some, goes_if, List.drop_eq_getElem_cons h, lead_cons]
      by_cases hg : goesP too (cmpB n.Keys[i] key)
      · rw [if_pos hg, if_pos hg, i64_in _ (by omega), i64_in _ (by omega), show (i : Int) + 1 = ((i + 1 : Nat) : Int) by omega, show (a : Int) + 1 = ((a + 1 : Nat) : Int) by omega, ih (i + 1) (a + 1) (by omega) (by omega) (by omega)]
        congr 2
        omega
      · rw [if_neg hg, if_neg hg]
        rfl
    · rw [if_neg (by omega), List.drop_of_length_le (by omega)]
      rfl
theorem ahead_l2 {n : T_api_Node} (hf : Fine n) (key : List Int) (too : Bool) : ∀ (fuel i at_ : Nat), i ≤ n.Pairs.length → n.Pairs.length - i < fuel → at_ ≤ i → n.Keys = [] →
    g51_l2 n key too fuel (i : Int) (at_ : Int) = some ((at_ + lead too key ((n.Pairs.drop i).map (·.Key)) : Nat) : Int) := by
  have f1 := hf.1
  intro fuel
  induction fuel with
  | zero => intro i a _ h; omega
  | succ f ih =>
    intro i a hi hfu ha hk
    show g51_l2B n key too (g51_l2 n key too f) (i : Int) (a : Int) = _
    unfold g51_l2B g51_j1 g15
    by_cases h : i < n.Pairs.length
    · have hx := List.getElem?_eq_getElem h
      rw [if_pos (by omega), getI_nat, hx, Option.bind_some, Option.bind_some, goes_if, List.drop_eq_getElem_cons h, List.map_cons, lead_cons]
      by_cases hg : goesP too (cmpB n.Pairs[i].Key key)
      · rw [if_pos hg, if_pos hg, i64_in _ (by omega), i64_in _ (by omega), show (i : Int) + 1 = ((i + 1 : Nat) : Int) by omega, show (a : Int) + 1 = ((a + 1 : Nat) : Int) by omega, ih (i + 1) (a + 1) (by omega) (by omega) (by omega) hk]
        congr 2
        omega
      · rw [if_neg hg, if_neg hg]
        rfl
    · rw [if_neg (by omega), List.drop_of_length_le (by omega)]
      have := ahead_l3 hf key too FUEL 0 a (by omega) (by unfold FUEL; rw [hk]; decide) (by omega)
      rw [List.drop_zero, hk] at this
      exact this
/-- The keys that a node has, of a node that may be: in its pairs, or of its own. -/
theorem ahead_ok {n : T_api_Node} (hf : Fine n) (m : MayP n) (key : List Int) (too : Bool) : g51 n key too = some ((lead too key (if n.Leaf then n.Pairs.map (·.Key) else n.Keys) : Nat) : Int) := by
  unfold g51
  cases hl : n.Leaf with
  | true =>
    have := ahead_l2 hf key too FUEL 0 0 (by omega) (by have := hf.1; unfold FUEL; omega) (by omega) (m.leaf hl).2.2.1
    rw [List.drop_zero, Nat.zero_add] at this
    simp only [if_true]
    exact this
  | false =>
    have hp := (m.inner hl).2.1
    obtain ⟨f, hF⟩ : ∃ f, FUEL = f + 1 := ⟨FUEL - 1, by unfold FUEL; decide⟩
    rw [hF]
    show g51_l2B n key too (g51_l2 n key too f) 0 0 = _
    unfold g51_l2B
    rw [hp, if_neg (by simp)]
    have := ahead_l3 hf key too FUEL 0 0 (by omega) (by have := hf.2.1; unfold FUEL; omega) (by omega)
    rw [List.drop_zero, Nat.zero_add] at this
    simp only [Bool.false_eq_true, if_false]
    exact this
theorem Kid_ok {n : T_api_Node} (hf : Fine n) (key : List Int) : g13 n key = some (if mayB n = true ∧ n.Leaf = false then ((lead true key n.Keys : Nat) : Int) else 0) := by
  unfold g13
  rw [may_ok hf, Option.bind_some]
  by_cases h : mayB n = true
  · rw [if_neg (by simp [h])]
    cases hl : n.Leaf with
    | true => rw [if_pos rfl, if_neg (by simp)]
    | false =>
      rw [if_neg (by decide), ahead_ok hf ((mayB_iff n).1 h), hl, if_neg (show ¬ (false = true) by decide), if_pos (show mayB n = true ∧ false = false from ⟨h, rfl⟩)]
      rfl
  · rw [if_pos h, if_neg (fun x => h x.1)]
theorem lead_at {too : Bool} {key : List Int} : ∀ (ks : List (List Int)) (i : Nat), i < lead too key ks → ∃ k, ks[i]? = some k ∧ goesP too (cmpB k key)
  | [], i, h => by simp [lead] at h
  | k :: ks, i, h => by
    rw [lead_cons] at h
    by_cases hg : goesP too (cmpB k key)
    · rw [if_pos hg] at h
      cases i with
      | zero => exact ⟨k, rfl, hg⟩
      | succ i => exact lead_at ks i (by omega)
    · rw [if_neg hg] at h; omega
theorem lead_end {too : Bool} {key : List Int} : ∀ (ks : List (List Int)) (k : List Int), ks[lead too key ks]? = some k → ¬ goesP too (cmpB k key)
  | [], k, h => by simp at h
  | a :: ks, k, h => by
    rw [lead_cons] at h
    by_cases hg : goesP too (cmpB a key)
    · rw [if_pos hg, List.getElem?_cons_succ] at h
      exact lead_end ks k h
    · rw [if_neg hg] at h
      cases h
      exact hg
end Go.Proofs.Ytefjbhogpgihaaa
