/- NodeHalves, the plain law, as the row asks for it. -/
import Derived.Test.YtefjbhogpgihaaaHK
namespace Go.Proofs.Ytefjbhogpgihaaa
open Go Go.SX Go.VX
set_option maxRecDepth 100000
set_option linter.unusedVariables false
def okB (k : List Int) : Prop := k.length ≤ 9223372036854775807 ∧ ∀ x ∈ k, (Lit.int .u8 x).wf = true
def okP (p : T_api_Pair) : Prop := okB p.Key ∧ okB p.Val
def okN (n : T_api_Node) : Prop := True ∧ (n.Pairs.length ≤ 9223372036854775807 ∧ ∀ p ∈ n.Pairs, okP p) ∧ (n.Keys.length ≤ 9223372036854775807 ∧ ∀ k ∈ n.Keys, okB k) ∧ (n.Kids.length ≤ 9223372036854775807 ∧ ∀ k ∈ n.Kids, (Lit.int .i64 k).wf = true)
theorem Pure.NodeHalves (x : T_api_Node) (i : Int) (h0 : okN x) (h1 : (Lit.int .u8 i).wf = true) : s8 x i = some true := by
  have := wf_u8 h1
  exact law_all x ⟨h0.2.1.1, h0.2.2.1.1, h0.2.2.2.1⟩ (by omega)
end Go.Proofs.Ytefjbhogpgihaaa
