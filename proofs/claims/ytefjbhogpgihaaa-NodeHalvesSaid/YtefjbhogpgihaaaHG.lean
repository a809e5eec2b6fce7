/- Plain laws of node for the print of VX, part 7: a node is the same as itself. -/
import Derived.Test.YtefjbhogpgihaaaHF
namespace Go.Proofs.Ytefjbhogpgihaaa
open Go Go.SX Go.VX
set_option maxRecDepth 100000
set_option linter.unusedVariables false
set_option linter.unusedSimpArgs false
theorem beq_self (b : List Int) : s34 b b = some true := by
  unfold s34 s34F
  rw [decide_eq_true rfl]
/-- A loop that goes on at every place comes to its end. -/
theorem goes {τ ρ : Type} {xs : List τ} (L : Nat → Int → Option ρ) (r : Option ρ) (step : ∀ n (i : Nat) x, xs[i]? = some x → L (n + 1) (i : Int) = L n ((i + 1 : Nat) : Int)) (stop : ∀ n, L (n + 1) (xs.length : Int) = r) :
    ∀ (fuel i : Nat), i ≤ xs.length → xs.length - i < fuel → L fuel (i : Int) = r := by
  intro fuel
  induction fuel with
  | zero => intro i _ h; omega
  | succ n ih =>
    intro i hi hf
    by_cases h : i < xs.length
    · rw [step n i _ (List.getElem?_eq_getElem h)]
      exact ih (i + 1) (by omega) (by omega)
    · obtain rfl : i = xs.length := by omega
      exact stop n
theorem same_pairs {xs : List T_api_Pair} (hx : xs.length ≤ 300) : s63 xs xs = some true := by
  unfold s63 s63F
  rw [if_neg (by simp)]
  exact goes (xs := xs) (fun n i => s63_l1 n xs xs (xs.length : Int) i) (some true) (fun n i x h => by
    have hi := (List.getElem?_eq_some_iff.1 h).1
    show s63_l1B (s63_l1 n) xs xs (xs.length : Int) (i : Int) = _
    unfold s63_l1B
    have e : s62 x x = some true := by unfold s62 s62F; rw [beq_self, beq_self]; rfl
    rw [if_pos (by omega), getI_nat, h, Option.bind_some, Option.bind_some, e, Option.bind_some, if_neg (by simp), show (i : Int) + 1 = ((i + 1 : Nat) : Int) by omega, i64_nat (by omega)]) (fun n => by
    show s63_l1B (s63_l1 n) xs xs (xs.length : Int) (xs.length : Int) = _
    unfold s63_l1B
    rw [if_neg (by omega)]) FUEL 0 (by omega) (by unfold FUEL; omega)
theorem same_keys {xs : List (List Int)} (hx : xs.length ≤ 300) : s64 xs xs = some true := by
  unfold s64 s64F
  rw [if_neg (by simp)]
  exact goes (xs := xs) (fun n i => s64_l1 n xs xs (xs.length : Int) i) (some true) (fun n i x h => by
    have hi := (List.getElem?_eq_some_iff.1 h).1
    show s64_l1B (s64_l1 n) xs xs (xs.length : Int) (i : Int) = _
    unfold s64_l1B
    rw [if_pos (by omega), getI_nat, h, Option.bind_some, Option.bind_some, beq_self, Option.bind_some, if_neg (by simp), show (i : Int) + 1 = ((i + 1 : Nat) : Int) by omega, i64_nat (by omega)]) (fun n => by
    show s64_l1B (s64_l1 n) xs xs (xs.length : Int) (xs.length : Int) = _
    unfold s64_l1B
    rw [if_neg (by omega)]) FUEL 0 (by omega) (by unfold FUEL; omega)
theorem same_kids {xs : List Int} (hx : xs.length ≤ 300) : s65 xs xs = some true := by
  unfold s65 s65F
  rw [if_neg (by simp)]
  exact goes (xs := xs) (fun n i => s65_l1 n xs xs (xs.length : Int) i) (some true) (fun n i x h => by
    have hi := (List.getElem?_eq_some_iff.1 h).1
    show s65_l1B (s65_l1 n) xs xs (xs.length : Int) (i : Int) = _
    unfold s65_l1B
    rw [if_pos (by omega), getI_nat, h, Option.bind_some, Option.bind_some, if_neg (by simp), show (i : Int) + 1 = ((i + 1 : Nat) : Int) by omega, i64_nat (by omega)]) (fun n => by
    show s65_l1B (s65_l1 n) xs xs (xs.length : Int) (xs.length : Int) = _
    unfold s65_l1B
    rw [if_neg (by omega)]) FUEL 0 (by omega) (by unfold FUEL; omega)
theorem same_self {n : T_api_Node} (hw : fewN n) : s29 n n = some true := by
  obtain ⟨w1, w2, w3, w4, w5⟩ := hw
  unfold s29 s29F
  rw [if_pos rfl, same_pairs w1, Option.bind_some, if_pos rfl, same_keys w2, Option.bind_some, if_pos rfl, same_kids w3]
  rfl
end Go.Proofs.Ytefjbhogpgihaaa
