/- The plain law of NodeBack: what the call computes is true, whatever is handed in. -/
import Derived.Test.YtefjbhogpgihaaaDoorNG
import Derived.Test.YtefjbhogpgihaaaDoorPZ
set_option linter.unusedVariables false
set_option maxRecDepth 20000
namespace Go.Proofs.YtefjbhogpgihaaaDoor
open Go Go.SX
theorem back_j2 {p2 : List Int} (h8 : B8 p2) (hl : p2.length ≤ 1000000) (p1 : Int) : g3_j2 p1 p2 = some true := by
  unfold g3_j2
  have s0 : g8 N0 N0 = some true := by kernel_rfl
  rcases get_any h8 hl p1 with h | h | ⟨n, h, hf, hr, hk, hc, hb⟩
  · rw [h, Option.bind_some, if_pos (by decide)]
    show (g8 N0 N0).bind _ = _
    rw [s0]; rfl
  · rw [h, Option.bind_some, if_pos (by decide)]
    show (g8 N0 N0).bind _ = _
    rw [s0]; rfl
  · rw [h, Option.bind_some, if_neg (show ¬ (0 : Int) ≠ 0 by decide)]
    simp only
    rw [put_any hf, if_pos hc, Option.bind_some, if_pos (show (0 : Int) = 0 from rfl), if_pos (show kindN n = p1 from hk.symm), hb]
    have h8' : B8 (padN n) := hb ▸ h8
    rw [equal_ok h8' h8', Option.bind_some]
    simp
theorem Pure.NodeBack (p0 : T_api_Node) (p1 : Int) (p2 : List Int) (h0 : okN p0) (h1 : (Lit.int .i64 p1).wf = true) (h2 : p2.length ≤ 9223372036854775807 ∧ ∀ x ∈ p2, (Lit.int .u8 x).wf = true) : g3 p0 p1 p2 = some true := by
  have h8 := B8.of_wf h2.2
  have hr := h0.raw
  have jt : g3_j1 p0 p1 p2 true = some true := by
    unfold g3_j1
    rw [if_pos rfl, live_ok]; rfl
  unfold g3
  rw [live_ok, Option.bind_some, if_neg (by simp), few_ok _ (by simp), Option.bind_some]
  by_cases hw : ∀ n ∈ [p0], fewN n
  · have hf := (hw p0 (by simp)).fine
    rw [decide_eq_true hw, if_neg (by simp)]
    by_cases hl : (p2.length : Int) > 3000
    · rw [decide_eq_true hl, jt]
    · rw [decide_eq_false hl]
      unfold g3_j1
      rw [if_neg (by decide), put_any hf, Option.bind_some]
      by_cases hc : chkN p0 = 0
      · obtain ⟨m, hs⟩ := chkN_zero hc
        have hlen := padN_len m hs
        rw [if_pos hc, if_pos rfl]
        simp only
        rw [get_pad hf hr hc, Option.bind_some, if_neg (show ¬ (0 : Int) ≠ 0 by decide)]
        simp only
        rw [same_refl hf, Option.bind_some, if_neg (by simp), hlen, if_neg (by decide), if_neg (by decide)]
        unfold g3_j4 g25
        rw [if_neg (by decide)]
        simp only
        rw [trim_loop FUEL _ (by omega) (by unfold FUEL; omega), Option.bind_some, Size_ok hf, if_pos ((mayB_iff p0).2 m), Option.bind_some]
        have ht : (trimZ (padN p0)).length ≤ sizeN p0 := by
          unfold padN
          rw [trimZ_rep, ← layN_len m]
          exact trimZ_le _
        rw [decide_eq_false (by omega)]
        unfold g3_j3
        rw [if_neg (by decide)]
        exact back_j2 h8 (by omega) p1
      · rw [if_neg hc, if_neg (by simpa using hc)]
        exact back_j2 h8 (by omega) p1
  · rw [decide_eq_false hw, if_pos (by simp), jt]
end Go.Proofs.YtefjbhogpgihaaaDoor
