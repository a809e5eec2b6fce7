/- Plain laws of node: the child that a key leads to; NodeKids. -/
import Derived.Test.YtefjbhogpgihaaaNA
set_option linter.unusedVariables false
set_option maxRecDepth 20000
namespace Go.Proofs.Ytefjbhogpgihaaa
open Go Go.SX
def okB (l : List Int) : Prop := l.length ≤ 9223372036854775807 ∧ ∀ x ∈ l, (Lit.int .u8 x).wf = true
def okP (p : T_api_Pair) : Prop := okB p.Key ∧ okB p.Val
def okN (n : T_api_Node) : Prop := True ∧ (n.Pairs.length ≤ 9223372036854775807 ∧ ∀ p ∈ n.Pairs, okP p) ∧ (n.Keys.length ≤ 9223372036854775807 ∧ ∀ k ∈ n.Keys, okB k) ∧ (n.Kids.length ≤ 9223372036854775807 ∧ ∀ k ∈ n.Kids, (Lit.int .i64 k).wf = true)
/-- Does it stand ahead? -/
def goesP (too : Bool) (c : Int) : Prop := c < 0 ∨ c = 0 ∧ too = true
instance (too : Bool) (c : Int) : Decidable (goesP too c) := by unfold goesP; infer_instance
theorem goes_if {ρ : Type} {too : Bool} {c : Int} {a b : ρ} : (if c < 0 then (if c < 0 then a else b) else if c = 0 then (if too = true then a else b) else b) = if goesP too c then a else b := by
  by_cases h1 : c < 0
  · rw [if_pos h1, if_pos h1, if_pos (show goesP too c from .inl h1)]
  · rw [if_neg h1]
    by_cases h2 : c = 0
    · rw [if_pos h2]
      by_cases h3 : too = true
      · rw [if_pos h3, if_pos (show goesP too c from .inr ⟨h2, h3⟩)]
      · rw [if_neg h3, if_neg (show ¬ goesP too c by rintro (h | ⟨_, h⟩); exact h1 h; exact h3 h)]
    · rw [if_neg h2, if_neg (show ¬ goesP too c by rintro (h | ⟨h, _⟩); exact h1 h; exact h2 h)]
/-- How many of the first ones. -/
def lead (too : Bool) (key : List Int) (ks : List (List Int)) : Nat := (ks.takeWhile fun k => decide (goesP too (cmpB k key))).length
theorem lead_le (too : Bool) (key : List Int) (ks : List (List Int)) : lead too key ks ≤ ks.length := (List.takeWhile_sublist _).length_le
theorem lead_cons {too : Bool} {key k : List Int} {ks : List (List Int)} : lead too key (k :: ks) = if goesP too (cmpB k key) then lead too key ks + 1 else 0 := by
  unfold lead
  rw [List.takeWhile_cons]
  by_cases h : goesP too (cmpB k key) <;> simp [h]
end Go.Proofs.Ytefjbhogpgihaaa
