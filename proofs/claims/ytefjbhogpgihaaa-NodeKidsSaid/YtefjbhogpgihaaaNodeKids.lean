/- The plain law of NodeKids: what the call computes is true, whatever is handed in. -/
import Derived.Test.YtefjbhogpgihaaaNK
set_option linter.unusedVariables false
set_option maxRecDepth 20000
namespace Go.Proofs.Ytefjbhogpgihaaa
open Go Go.SX
theorem kids_j3 {n : T_api_Node} (hf : Fine n) (key : List Int) : g3_j3 n key ((lead true key n.Keys : Nat) : Int) false = some true := by
  have hle := lead_le true key n.Keys
  have f2 := hf.2.1
  have last : ∀ i : Nat, i = lead true key n.Keys → (if (i : Int) = (n.Keys.length : Int) then g3_j4 true else (getI n.Keys (i : Int)).bind fun x => (g15 x key).bind fun c => g3_j4 (decide (c > 0))) = some true := by
    rintro i rfl
    unfold g3_j4 g15
    by_cases h : ((lead true key n.Keys : Nat) : Int) = (n.Keys.length : Int)
    · rw [if_pos h]
    · rw [if_neg h, getI_nat]
      have hlt : lead true key n.Keys < n.Keys.length := by omega
      have hx := List.getElem?_eq_getElem hlt
      have hn := lead_end n.Keys _ hx
      rw [hx, Option.bind_some, Option.bind_some]
      congr 1
      rw [decide_eq_true_eq]
      unfold goesP at hn
      have h1 : ¬ cmpB n.Keys[lead true key n.Keys] key < 0 := fun h => hn (.inl h)
      have h2 : ¬ cmpB n.Keys[lead true key n.Keys] key = 0 := fun h => hn (.inr ⟨h, rfl⟩)
      omega
  unfold g3_j3
  rw [if_neg (by decide)]
  by_cases h0 : ((lead true key n.Keys : Nat) : Int) = 0
  · rw [if_pos h0]
    exact last _ rfl
  · rw [if_neg h0]
    obtain ⟨k, hk, hg⟩ := lead_at (too := true) (key := key) n.Keys (lead true key n.Keys - 1) (by omega)
    have e : IntKind.i64.wrap (((lead true key n.Keys : Nat) : Int) - 1) = ((lead true key n.Keys - 1 : Nat) : Int) := by rw [i64_in _ (by omega)]; omega
    rw [e, getI_nat, hk, Option.bind_some]
    have hc : cmpB k key ≤ 0 := by rcases hg with h | ⟨h, _⟩ <;> omega
    have cb : ∀ {ρ : Type} (f : Int → Option ρ), (g15 k key).bind f = f (cmpB k key) := fun f => rfl
    rw [cb, if_pos hc]
    exact last _ rfl
theorem Pure.NodeKids (p0 : T_api_Node) (p1 : List Int) (h0 : okN p0) (h1 : okB p1) : g3 p0 p1 = some true := by
  have jt : g3_j1 p0 p1 true = some true := by
    unfold g3_j1
    rw [if_pos rfl, live_ok]; rfl
  unfold g3
  rw [live_ok, Option.bind_some, if_neg (by simp), few_ok _ (by simp), Option.bind_some]
  by_cases hw : ∀ n ∈ [p0], fewN n
  · have hf := (hw p0 (by simp)).fine
    rw [decide_eq_true hw, if_neg (by simp)]
    by_cases hl : (p1.length : Int) > 300
    · rw [decide_eq_true hl, jt]
    · rw [decide_eq_false hl]
      unfold g3_j1
      rw [if_neg (by decide), Kid_ok hf, Option.bind_some]
      cases hleaf : p0.Leaf with
      | true =>
        rw [if_pos rfl, if_neg (by simp)]
        unfold g3_j2
        rw [if_pos rfl]
        rfl
      | false =>
        rw [if_neg (by decide), Size_ok hf, Option.bind_some]
        by_cases hm : mayB p0 = true
        · have hs := size_pos p0
          have hi := ((mayB_iff p0).1 hm).inner hleaf
          have hle := lead_le true p1 p0.Keys
          rw [if_pos ⟨hm, rfl⟩, if_pos hm, decide_eq_false (by omega)]
          unfold g3_j2
          rw [if_neg (by decide), if_neg (by omega), decide_eq_false (by omega)]
          exact kids_j3 hf p1
        · rw [if_neg (fun h => hm h.1), if_neg hm]
          unfold g3_j2
          rw [if_pos (by decide)]
          rfl
  · rw [decide_eq_false hw, if_pos (by simp), jt]
end Go.Proofs.Ytefjbhogpgihaaa
