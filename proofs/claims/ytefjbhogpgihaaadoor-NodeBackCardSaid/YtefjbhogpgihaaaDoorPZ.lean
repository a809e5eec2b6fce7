/- Plain laws: bytes without the noughts at their end. -/
import Derived.Test.YtefjbhogpgihaaaDoorPK
set_option linter.unusedVariables false
set_option maxRecDepth 20000
namespace Go.Proofs.YtefjbhogpgihaaaDoor
open Go Go.SX
def trimZ (l : List Int) : List Int := (l.reverse.dropWhile (fun x => decide (x = 0))).reverse
theorem trimZ_nil : trimZ [] = [] := rfl
theorem trimZ_zero (l : List Int) : trimZ (l ++ [0]) = trimZ l := by simp [trimZ]
theorem trimZ_keep (l : List Int) {x : Int} (h : x ≠ 0) : trimZ (l ++ [x]) = l ++ [x] := by simp [trimZ, h]
theorem trimZ_rep (l : List Int) : ∀ n, trimZ (l ++ List.replicate n 0) = trimZ l
  | 0 => by simp
  | n + 1 => by rw [List.replicate_succ', ← List.append_assoc, trimZ_zero, trimZ_rep l n]
theorem trimZ_le (l : List Int) : (trimZ l).length ≤ l.length := by
  unfold trimZ
  rw [List.length_reverse]
  have := (List.dropWhile_sublist (fun x : Int => decide (x = 0)) (l := l.reverse)).length_le
  rwa [List.length_reverse] at this
theorem trimZ_mem {l : List Int} {x : Int} (h : x ∈ trimZ l) : x ∈ l := by
  unfold trimZ at h
  rw [List.mem_reverse] at h
  have := (List.dropWhile_sublist (fun x : Int => decide (x = 0)) (l := l.reverse)).subset h
  exact List.mem_reverse.1 this
theorem trimZ8 {l : List Int} (h : B8 l) : B8 (trimZ l) := fun x hx => h x (trimZ_mem hx)
theorem trim_loop : ∀ (fuel : Nat) (l : List Int), l.length < 9223372036854775807 → l.length < fuel → g25_l1 0 fuel l = some (trimZ l) := by
  intro fuel
  induction fuel with
  | zero => intro l _ h; omega
  | succ n ih =>
    intro l hb hf
    show g25_l1B 0 (g25_l1 0 n) l = _
    unfold g25_l1B
    by_cases h : l = []
    · subst h
      rw [if_neg (by simp)]
      rfl
    · have e := List.dropLast_concat_getLast h
      generalize l.dropLast = k at e
      generalize l.getLast h = x at e
      subst e
      have hlen : (k ++ [x]).length = k.length + 1 := by simp
      have e1 : IntKind.i64.wrap (((k ++ [x]).length : Int) - 1) = ((k.length : Nat) : Int) := by rw [hlen, i64_in _ (by omega)]; omega
      rw [if_pos (by rw [hlen]; omega), e1, getI_nat, get_mid rfl, Option.bind_some]
      by_cases hx : x = 0
      · subst hx
        rw [if_pos rfl, cutI_to (by omega), Option.bind_some, List.take_left, ih k (by omega) (by omega), trimZ_zero]
      · rw [if_neg hx, trimZ_keep k hx]
end Go.Proofs.YtefjbhogpgihaaaDoor
