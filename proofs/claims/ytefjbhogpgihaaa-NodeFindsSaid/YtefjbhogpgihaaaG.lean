/- PRINTED BY sy.py: what each Go function computes, in plain Lean. -/
import Derived.Test.YtefjbhogpgihaaaSXaa
namespace Go.Proofs.Ytefjbhogpgihaaa
open Go Go.SX Go.RowKit
set_option maxRecDepth 100000
set_option linter.unusedVariables false
structure T_api_Pair where
  Key : (List Int)
  Val : (List Int)
  deriving DecidableEq
structure T_api_Node where
  Leaf : Bool
  Pairs : (List T_api_Pair)
  Keys : (List (List Int))
  Kids : (List Int)
  deriving DecidableEq
-- incipit/node.isKey 
def g78 (p0 : (List Int)) : Option Bool :=
  if (p0.length : Int) > 0 then (some (decide ((p0.length : Int) ≤ 25))) else (some false)

-- bytes.Compare 
def g15 (p0 : (List Int)) (p1 : (List Int)) : Option Int :=
  some (cmpB p0 p1)

-- incipit/node.may$1 (('agg', ('ro', 'ro')),)
def g91 (p0 : T_api_Pair) : Option Bool :=
  some (decide ((p0.Val.length : Int) > 24))

-- incipit/node.isKid 
def g83 (p0 : Int) : Option Bool :=
  if p0 ≥ 2 then (some (decide (p0 < 2048))) else (some false)

-- incipit/node.may$2 
def g93 (p0 : Int) : Option Bool :=
  (g83 p0).bind fun x19927 => (some (decide (¬ (x19927 = true))))

-- incipit/node.may (('agg', ('.', 'ro', 'ro', 'ro')),)
def g50_j3 (x45603 : Bool) : Option Bool :=
  some x45603
def g50_j2 (p0 : T_api_Node) (x45595 : Int) : Option Bool :=
  if ¬ (x45595 ≥ 0) then (if (p0.Pairs.length : Int) ≤ 255 then ((some (IntKind.i64.wrap ((p0.Keys.length : Int) + (p0.Kids.length : Int)))).bind fun x45608 => (g50_j3 (decide (x45608 = 0)))) else (g50_j3 false)) else (g50_j3 false)
def g50_l4B (p0 : T_api_Node) (rec45955 : Int → Option Bool) (x45886 : Int) : Option Bool :=
  if x45886 < (p0.Pairs.length : Int) then ((getI p0.Pairs x45886).bind fun x45992 => ((g91 x45992).bind fun x46016 => (if x46016 = true then (g50_j2 p0 x45886) else (rec45955 (IntKind.i64.wrap (x45886 + 1)))))) else (g50_j2 p0 (-1))
def g50_l4 (p0 : T_api_Node) : Nat → Int → Option Bool
  | 0, _ => none
  | n + 1, x45886 => g50_l4B p0 (g50_l4 p0 n) x45886
def g50_j6 (x46725 : Bool) : Option Bool :=
  some x46725
def g50_j5 (p0 : T_api_Node) (x46709 : Int) : Option Bool :=
  if ¬ (x46709 ≥ 0) then (if (p0.Pairs.length : Int) = 0 then (if (p0.Keys.length : Int) > 0 then (if (p0.Keys.length : Int) ≤ 255 then (g50_j6 (decide ((p0.Kids.length : Int) = (IntKind.i64.wrap ((p0.Keys.length : Int) + 1))))) else (g50_j6 false)) else (g50_j6 false)) else (g50_j6 false)) else (g50_j6 false)
def g50_l7B (p0 : T_api_Node) (rec46919 : Int → Option Bool) (x46882 : Int) : Option Bool :=
  if x46882 < (p0.Kids.length : Int) then ((getI p0.Kids x46882).bind fun x46940 => ((g93 x46940).bind fun x46948 => (if x46948 = true then (g50_j5 p0 x46882) else (rec46919 (IntKind.i64.wrap (x46882 + 1)))))) else (g50_j5 p0 (-1))
def g50_l7 (p0 : T_api_Node) : Nat → Int → Option Bool
  | 0, _ => none
  | n + 1, x46882 => g50_l7B p0 (g50_l7 p0 n) x46882
def g50_j1 (p0 : T_api_Node) (x42644 : Bool) : Option Bool :=
  if ¬ (x42644 = true) then (some false) else (if p0.Leaf = true then (g50_l4 p0 FUEL 0) else (g50_l7 p0 FUEL 0))
def g50_l9B (p0 : T_api_Node) (rec52163 : Int → (List Int) → Bool → Option Bool) (x51943 : Int) (x51944 : (List Int)) (z51949 : Bool) : Option Bool :=
  if x51943 < (p0.Keys.length : Int) then ((getI p0.Keys x51943).bind fun x52272 => ((g78 x52272).bind fun x52343 => (if ¬ (x52343 = true) then (g50_j1 p0 false) else (if (!z51949) = true then ((g15 x51944 x52272).bind fun x52360 => (if x52360 ≥ 0 then (g50_j1 p0 false) else (if 0 < x52272.length then (rec52163 (IntKind.i64.wrap (x51943 + 1)) x52272 false) else none))) else (if 0 < x52272.length then (rec52163 (IntKind.i64.wrap (x51943 + 1)) x52272 false) else none))))) else (g50_j1 p0 true)
def g50_l9 (p0 : T_api_Node) : Nat → Int → (List Int) → Bool → Option Bool
  | 0, _, _, _ => none
  | n + 1, x51943, x51944, z51949 => g50_l9B p0 (g50_l9 p0 n) x51943 x51944 z51949
def g50_l8B (p0 : T_api_Node) (rec51251 : Int → (List Int) → Bool → Option Bool) (x51001 : Int) (x51002 : (List Int)) (z51007 : Bool) : Option Bool :=
  if x51001 < (p0.Pairs.length : Int) then ((getI p0.Pairs x51001).bind fun x51375 => ((g78 x51375.Key).bind fun x51461 => (if ¬ (x51461 = true) then (g50_j1 p0 false) else (if (!z51007) = true then ((g15 x51002 x51375.Key).bind fun x51478 => (if x51478 ≥ 0 then (g50_j1 p0 false) else (if 0 < x51375.Key.length then (rec51251 (IntKind.i64.wrap (x51001 + 1)) x51375.Key false) else none))) else (if 0 < x51375.Key.length then (rec51251 (IntKind.i64.wrap (x51001 + 1)) x51375.Key false) else none))))) else (g50_l9 p0 FUEL 0 x51002 z51007)
def g50_l8 (p0 : T_api_Node) : Nat → Int → (List Int) → Bool → Option Bool
  | 0, _, _, _ => none
  | n + 1, x51001, x51002, z51007 => g50_l8B p0 (g50_l8 p0 n) x51001 x51002 z51007
def g50 (p0 : T_api_Node) : Option Bool :=
  g50_l8 p0 FUEL 0 [] true

-- incipit/node.many (('agg', ('.', 'ro', 'ro', 'ro')),)
def g66 (p0 : T_api_Node) : Option Int :=
  (some (IntKind.i64.wrap ((p0.Pairs.length : Int) + (p0.Keys.length : Int)))).bind fun x52454 => (some x52454)

-- incipit/node.width (('agg', ('.', 'ro', 'ro', 'ro')), '.')
def g94 (p0 : T_api_Node) (p1 : Int) : Option Int :=
  if p0.Leaf = true then ((getI p0.Pairs p1).bind fun x52694 => ((getI p0.Pairs p1).bind fun x52719 => ((some (IntKind.i64.wrap ((IntKind.i64.wrap (2 + (x52694.Key.length : Int))) + (x52719.Val.length : Int)))).bind fun x52744 => (some x52744)))) else ((getI p0.Keys p1).bind fun x52746 => (some (IntKind.i64.wrap (3 + (x52746.length : Int)))))

-- incipit/node.size (('agg', ('.', 'ro', 'ro', 'ro')),)
def g52_l2B (p0 : T_api_Node) (x52906 : Int) (rec52937 : Int → Int → Option Int) (x52924 : Int) (x52925 : Int) : Option Int :=
  if x52925 < x52906 then ((g94 p0 x52925).bind fun x52942 => (rec52937 (IntKind.i64.wrap (x52924 + x52942)) (IntKind.i64.wrap (x52925 + 1)))) else (some x52924)
def g52_l2 (p0 : T_api_Node) (x52906 : Int) : Nat → Int → Int → Option Int
  | 0, _, _ => none
  | n + 1, x52924, x52925 => g52_l2B p0 x52906 (g52_l2 p0 x52906 n) x52924 x52925
def g52_j1 (p0 : T_api_Node) (x52860 : Int) : Option Int :=
  (g66 p0).bind fun x52906 => (g52_l2 p0 x52906 FUEL x52860 0)
def g52 (p0 : T_api_Node) : Option Int :=
  if ¬ (p0.Leaf = true) then (g52_j1 p0 3) else (g52_j1 p0 1)

-- incipit/node.Check (('agg', ('.', 'ro', 'ro', 'ro')),)
def g26 (p0 : T_api_Node) : Option Int :=
  (g50 p0).bind fun x53009 => (if ¬ (x53009 = true) then (some 100) else ((g52 p0).bind fun x53017 => (if x53017 > 240 then (some 3) else (some 0))))

-- incipit/pack.Text 
def g96 (p0 : (List Int)) (p1 : (List Int)) : Option ((List Int) × Int) :=
  if (p1.length : Int) > 255 then (some (([] : List Int), 3)) else ((some (IntKind.i64.wrap ((p0.length : Int) + (IntKind.i64.wrap (1 + (p1.length : Int)))))).bind fun x53443 => ((repI x53443 0 1).bind fun x53445 => ((some (copyI x53445 0 (x53445.length : Int) p0)).bind fun x53462 => (if (0 : Int) ≤ (p0.length : Int) ∧ (p0.length : Int) ≤ (x53462.length : Int) ∧ (x53462.length : Int) ≤ (x53462.length : Int) then (if (0 : Int) ≤ 0 ∧ 0 < (x53462.length : Int) - (p0.length : Int) then ((getI x53462 ((p0.length : Int) + 0)).bind fun x53480 => ((setI x53462 ((p0.length : Int) + 0) (IntKind.u8.wrap (p1.length : Int))).bind fun y53485 => (if (0 : Int) ≤ 1 ∧ 1 ≤ (x53462.length : Int) - (p0.length : Int) ∧ (x53462.length : Int) - (p0.length : Int) ≤ (x53462.length : Int) - (p0.length : Int) then ((some (copyI y53485 ((p0.length : Int) + 1) ((p0.length : Int) + ((x53462.length : Int) - (p0.length : Int))) p1)).bind fun x53511 => (some (x53511, 0))) else none))) else none) else none))))

-- incipit/node.text 
def g67 (p0 : (List Int)) (p1 : (List Int)) : Option (List Int) :=
  (g96 p0 p1).bind fun x53542 => (some x53542.1)

-- incipit/pack.wide 
def g97_l1B (p0 : (List Int)) (p1 : Int) (p2 : Int) (x54308 : (List Int)) (rec54433 : Int → (List Int) → Option (List Int)) (x54408 : Int) (x54409 : (List Int)) : Option (List Int) :=
  if x54408 < p2 then (if 0 ≤ (IntKind.u64.wrap (IntKind.i64.wrap (8 * x54408))) then ((some (shrI .u64 p1 (IntKind.u64.wrap (IntKind.i64.wrap (8 * x54408))))).bind fun x54439 => (if (0 : Int) ≤ IntKind.i64.wrap ((IntKind.i64.wrap (p2 - 1)) - x54408) ∧ IntKind.i64.wrap ((IntKind.i64.wrap (p2 - 1)) - x54408) < (x54308.length : Int) - (p0.length : Int) then ((getI x54409 ((p0.length : Int) + (IntKind.i64.wrap ((IntKind.i64.wrap (p2 - 1)) - x54408)))).bind fun x54441 => ((setI x54409 ((p0.length : Int) + (IntKind.i64.wrap ((IntKind.i64.wrap (p2 - 1)) - x54408))) (IntKind.u8.wrap x54439)).bind fun y54446 => (rec54433 (IntKind.i64.wrap (x54408 + 1)) y54446))) else none)) else none) else (some x54409)
def g97_l1 (p0 : (List Int)) (p1 : Int) (p2 : Int) (x54308 : (List Int)) : Nat → Int → (List Int) → Option (List Int)
  | 0, _, _ => none
  | n + 1, x54408, x54409 => g97_l1B p0 p1 p2 x54308 (g97_l1 p0 p1 p2 x54308 n) x54408 x54409
def g97 (p0 : (List Int)) (p1 : Int) (p2 : Int) : Option (List Int) :=
  (repI (IntKind.i64.wrap ((p0.length : Int) + p2)) 0 1).bind fun x54291 => ((some (copyI x54291 0 (x54291.length : Int) p0)).bind fun x54308 => (if (0 : Int) ≤ (p0.length : Int) ∧ (p0.length : Int) ≤ (x54308.length : Int) ∧ (x54308.length : Int) ≤ (x54308.length : Int) then (g97_l1 p0 p1 p2 x54308 FUEL 0 x54308) else none))

-- incipit/pack.U16 
def g68 (p0 : (List Int)) (p1 : Int) : Option (List Int) :=
  (g97 p0 (IntKind.u64.wrap p1) 2).bind fun x54481 => (some x54481)

-- incipit/node.Put (('agg', ('.', 'ro', 'ro', 'ro')),)
def g30_l3B (p0 : T_api_Node) (x55641 : Int) (rec56040 : (List Int) → Int → Option (Int × (List Int) × Int)) (x55956 : (List Int)) (x55964 : Int) : Option (Int × (List Int) × Int) :=
  if x55964 < (p0.Keys.length : Int) then ((getI p0.Keys x55964).bind fun x56045 => ((getI p0.Kids (IntKind.i64.wrap (x55964 + 1))).bind fun x56065 => ((g67 x55956 x56045).bind fun x56078 => ((g68 x56078 (IntKind.u16.wrap x56065)).bind fun x56099 => (rec56040 x56099 (IntKind.i64.wrap (x55964 + 1))))))) else ((appZI x55956 (IntKind.i64.wrap (240 - (x55956.length : Int))) 0 1).bind fun x56116 => (some (x55641, x56116, 0)))
def g30_l3 (p0 : T_api_Node) (x55641 : Int) : Nat → (List Int) → Int → Option (Int × (List Int) × Int)
  | 0, _, _ => none
  | n + 1, x55956, x55964 => g30_l3B p0 x55641 (g30_l3 p0 x55641 n) x55956 x55964
def g30_j2 (p0 : T_api_Node) (x55633 : (List Int)) (x55641 : Int) : Option (Int × (List Int) × Int) :=
  g30_l3 p0 x55641 FUEL x55633 0
def g30_l1B (p0 : T_api_Node) (rec55520 : (List Int) → Int → Option (Int × (List Int) × Int)) (x55430 : (List Int)) (x55438 : Int) : Option (Int × (List Int) × Int) :=
  if x55438 < (p0.Pairs.length : Int) then ((getI p0.Pairs x55438).bind fun x55525 => ((g67 x55430 x55525.Key).bind fun x55564 => ((g67 x55564 x55525.Val).bind fun x55585 => (rec55520 x55585 (IntKind.i64.wrap (x55438 + 1)))))) else (if ¬ (p0.Leaf = true) then ((getI p0.Kids 0).bind fun x56129 => ((g68 x55430 (IntKind.u16.wrap x56129)).bind fun x56141 => (g30_j2 p0 x56141 4))) else (g30_j2 p0 x55430 3))
def g30_l1 (p0 : T_api_Node) : Nat → (List Int) → Int → Option (Int × (List Int) × Int)
  | 0, _, _ => none
  | n + 1, x55430, x55438 => g30_l1B p0 (g30_l1 p0 n) x55430 x55438
def g30 (p0 : T_api_Node) : Option (Int × (List Int) × Int) :=
  (g26 p0).bind fun x55075 => (if x55075 ≠ 0 then (some (0, ([] : List Int), x55075)) else ((g66 p0).bind fun x55084 => (g30_l1 p0 FUEL ([IntKind.u8.wrap x55084] : List Int) 0)))

-- bytes.Equal 
def g34 (p0 : (List Int)) (p1 : (List Int)) : Option Bool :=
  some (decide ((strOfNums p0).toList = (strOfNums p1).toList))

-- incipit/node.ahead (('agg', ('.', 'ro', 'ro', 'ro')), 'ro', '.')
def g51_j1 (x60527 : Int) : Option Int :=
  some x60527
def g51_l3B (p0 : T_api_Node) (p1 : (List Int)) (p2 : Bool) (rec61770 : Int → Int → Option Int) (x61640 : Int) (x61641 : Int) : Option Int :=
  if x61640 < (p0.Keys.length : Int) then ((getI p0.Keys x61640).bind fun x61837 => ((g15 x61837 p1).bind fun x61872 => (if x61872 < 0 then (if x61872 < 0 then (rec61770 (IntKind.i64.wrap (x61640 + 1)) (IntKind.i64.wrap (x61641 + 1))) else (g51_j1 x61641)) else (if x61872 = 0 then (if p2 = true then (rec61770 (IntKind.i64.wrap (x61640 + 1)) (IntKind.i64.wrap (x61641 + 1))) else (g51_j1 x61641)) else (g51_j1 x61641))))) else (g51_j1 x61641)
def g51_l3 (p0 : T_api_Node) (p1 : (List Int)) (p2 : Bool) : Nat → Int → Int → Option Int
  | 0, _, _ => none
  | n + 1, x61640, x61641 => g51_l3B p0 p1 p2 (g51_l3 p0 p1 p2 n) x61640 x61641
def g51_l2B (p0 : T_api_Node) (p1 : (List Int)) (p2 : Bool) (rec61347 : Int → Int → Option Int) (x61187 : Int) (x61188 : Int) : Option Int :=
  if x61187 < (p0.Pairs.length : Int) then ((getI p0.Pairs x61187).bind fun x61429 => ((g15 x61429.Key p1).bind fun x61479 => (if x61479 < 0 then (if x61479 < 0 then (rec61347 (IntKind.i64.wrap (x61187 + 1)) (IntKind.i64.wrap (x61188 + 1))) else (g51_j1 x61188)) else (if x61479 = 0 then (if p2 = true then (rec61347 (IntKind.i64.wrap (x61187 + 1)) (IntKind.i64.wrap (x61188 + 1))) else (g51_j1 x61188)) else (g51_j1 x61188))))) else (g51_l3 p0 p1 p2 FUEL 0 x61188)
def g51_l2 (p0 : T_api_Node) (p1 : (List Int)) (p2 : Bool) : Nat → Int → Int → Option Int
  | 0, _, _ => none
  | n + 1, x61187, x61188 => g51_l2B p0 p1 p2 (g51_l2 p0 p1 p2 n) x61187 x61188
def g51 (p0 : T_api_Node) (p1 : (List Int)) (p2 : Bool) : Option Int :=
  g51_l2 p0 p1 p2 FUEL 0 0

-- incipit/node.Kid (('agg', ('.', 'ro', 'ro', 'ro')), 'ro')
def g13 (p0 : T_api_Node) (p1 : (List Int)) : Option Int :=
  (g50 p0).bind fun x61962 => (if ¬ (x61962 = true) then (some 0) else (if p0.Leaf = true then (some 0) else ((g51 p0 p1 true).bind fun x61971 => (some x61971))))

-- incipit/incipitlaw10.live 
def g11_j1 (x62293 : Bool) : Option Bool :=
  some x62293
def g11  : Option Bool :=
  (g30 (T_api_Node.mk true ([(T_api_Pair.mk ([97] : List Int) ([7] : List Int)), (T_api_Pair.mk ([98] : List Int) [])] : List T_api_Pair) [] [])).bind fun x62158 => (if x62158.2.2 = 0 then (if x62158.1 = 3 then (if (x62158.2.1.length : Int) = 240 then ((cutI x62158.2.1 0 9).bind fun y62301 => ((g34 y62301 ([2, 1, 97, 1, 7, 1, 98, 0, 0] : List Int)).bind fun x62320 => (if x62320 = true then ((g13 (T_api_Node.mk false [] ([([98] : List Int)] : List (List Int)) ([5, 6] : List Int)) ([98] : List Int)).bind fun x62348 => (if x62348 = 1 then ((g13 (T_api_Node.mk false [] ([([98] : List Int)] : List (List Int)) ([5, 6] : List Int)) ([97, 122, 122] : List Int)).bind fun x62377 => (g11_j1 (decide (x62377 = 0)))) else (g11_j1 false))) else (g11_j1 false)))) else (g11_j1 false)) else (g11_j1 false)) else (g11_j1 false))

-- incipit/incipitlaw10.few 
def g12_l4B (x74100 : Int) (rec75269 : Int → Option Bool) (x75856 : T_api_Node) (rec76395 : Int → Option Bool) (x76362 : Int) : Option Bool :=
  if x76362 < (x75856.Keys.length : Int) then ((getI x75856.Keys x76362).bind fun x76415 => (if (x76415.length : Int) > 300 then (some false) else (rec76395 (IntKind.i64.wrap (x76362 + 1))))) else (rec75269 (IntKind.i64.wrap (x74100 + 1)))
def g12_l4 (x74100 : Int) (rec75269 : Int → Option Bool) (x75856 : T_api_Node) : Nat → Int → Option Bool
  | 0, _ => none
  | n + 1, x76362 => g12_l4B x74100 rec75269 x75856 (g12_l4 x74100 rec75269 x75856 n) x76362
def g12_l3B (x74100 : Int) (rec75269 : Int → Option Bool) (x75856 : T_api_Node) (rec76259 : Int → Option Bool) (x76190 : Int) : Option Bool :=
  if x76190 < (x75856.Pairs.length : Int) then ((getI x75856.Pairs x76190).bind fun x76296 => (if (x76296.Key.length : Int) > 300 then (some false) else (if (x76296.Val.length : Int) > 300 then (some false) else (rec76259 (IntKind.i64.wrap (x76190 + 1)))))) else (g12_l4 x74100 rec75269 x75856 FUEL 0)
def g12_l3 (x74100 : Int) (rec75269 : Int → Option Bool) (x75856 : T_api_Node) : Nat → Int → Option Bool
  | 0, _ => none
  | n + 1, x76190 => g12_l3B x74100 rec75269 x75856 (g12_l3 x74100 rec75269 x75856 n) x76190
def g12_j2 (x74100 : Int) (rec75269 : Int → Option Bool) (x75856 : T_api_Node) (x75907 : Bool) (x75908 : Bool) (x75909 : Bool) (x75910 : Bool) : Option Bool :=
  if x75910 = true then (some false) else (g12_l3 x74100 rec75269 x75856 FUEL 0)
def g12_l1B (p0 : (List T_api_Node)) (rec75269 : Int → Option Bool) (x74100 : Int) : Option Bool :=
  if x74100 < (p0.length : Int) then ((getI p0 x74100).bind fun x75856 => (if (x75856.Pairs.length : Int) > 300 then (g12_j2 x74100 rec75269 x75856 true true true true) else (if (x75856.Keys.length : Int) > 300 then (g12_j2 x74100 rec75269 x75856 false (decide ((x75856.Keys.length : Int) > 300)) true true) else (g12_j2 x74100 rec75269 x75856 false (decide ((x75856.Keys.length : Int) > 300)) false (decide ((x75856.Kids.length : Int) > 300)))))) else (some true)
def g12_l1 (p0 : (List T_api_Node)) : Nat → Int → Option Bool
  | 0, _ => none
  | n + 1, x74100 => g12_l1B p0 (g12_l1 p0 n) x74100
def g12 (p0 : (List T_api_Node)) : Option Bool :=
  g12_l1 p0 FUEL 0

-- incipit/node.Find (('agg', ('.', 'ro', 'ro', 'ro')), 'ro')
def g16_j1 (p0 : T_api_Node) (p1 : (List Int)) (x76717 : Bool) : Option (Int × Bool) :=
  if x76717 = true then (some (0, false)) else ((g51 p0 p1 false).bind fun x76721 => (if x76721 < (p0.Pairs.length : Int) then ((getI p0.Pairs x76721).bind fun x76761 => ((g34 x76761.Key p1).bind fun x76785 => (some (x76721, x76785)))) else (some (x76721, false))))
def g16 (p0 : T_api_Node) (p1 : (List Int)) : Option (Int × Bool) :=
  (g50 p0).bind fun x76794 => (if ¬ (x76794 = true) then (g16_j1 p0 p1 true) else (g16_j1 p0 p1 (decide (¬ (p0.Leaf = true)))))

-- incipit/incipitref10.Key 
def g54 (p0 : (List Int)) : Option Bool :=
  if (p0.length : Int) ≥ 1 then (some (decide ((p0.length : Int) ≤ 25))) else (some false)

-- incipit/incipitref10.Child 
def g55 (p0 : Int) : Option Bool :=
  if p0 ≥ 2 then (some (decide (p0 < 2048))) else (some false)

-- incipit/incipitref10.May (('agg', ('.', 'ro', 'ro', 'ro')),)
def g18_j3 (x92339 : Int) (rec92852 : Int → Option Bool) (x93228 : (List T_api_Pair)) (x93233 : (List Int)) (x93238 : Bool) (x93239 : Bool) (x93240 : Bool) (x93241 : Bool) (x93242 : Bool) (x93243 : Bool) : Option Bool :=
  if x93243 = true then (some false) else (rec92852 (IntKind.i64.wrap (x92339 + 1)))
def g18_l2B (p0 : T_api_Node) (rec92852 : Int → Option Bool) (x92339 : Int) : Option Bool :=
  if x92339 < (p0.Pairs.length : Int) then ((getI p0.Pairs x92339).bind fun x93255 => ((g54 x93255.Key).bind fun x93280 => (if ¬ (x93280 = true) then (g18_j3 x92339 rec92852 p0.Pairs x93255.Key x93280 (decide (¬ (x93280 = true))) true true true true) else ((getI p0.Pairs x92339).bind fun x93288 => (if (x93288.Val.length : Int) > 24 then (g18_j3 x92339 rec92852 p0.Pairs x93255.Key x93280 (decide (¬ (x93280 = true))) false (decide ((x93288.Val.length : Int) > 24)) true true) else (if x92339 > 0 then ((getI p0.Pairs (IntKind.i64.wrap (x92339 - 1))).bind fun x93315 => ((getI p0.Pairs x92339).bind fun x93340 => (g18_j3 x92339 rec92852 p0.Pairs x93255.Key x93280 (decide (¬ (x93280 = true))) false (decide ((x93288.Val.length : Int) > 24)) false (!(Op.bytesLess (strOfNums x93315.Key).toList (strOfNums x93340.Key).toList))))) else (g18_j3 x92339 rec92852 p0.Pairs x93255.Key x93280 (decide (¬ (x93280 = true))) false (decide ((x93288.Val.length : Int) > 24)) false false))))))) else (some true)
def g18_l2 (p0 : T_api_Node) : Nat → Int → Option Bool
  | 0, _ => none
  | n + 1, x92339 => g18_l2B p0 (g18_l2 p0 n) x92339
def g18_j1 (p0 : T_api_Node) (x89753 : Bool) : Option Bool :=
  if x89753 = true then (some false) else (g18_l2 p0 FUEL 0)
def g18_l6B (p0 : T_api_Node) (rec95300 : Int → Option Bool) (x95263 : Int) : Option Bool :=
  if x95263 < (p0.Kids.length : Int) then ((getI p0.Kids x95263).bind fun x95321 => ((g55 x95321).bind fun x95329 => (if ¬ (x95329 = true) then (some false) else (rec95300 (IntKind.i64.wrap (x95263 + 1)))))) else (some true)
def g18_l6 (p0 : T_api_Node) : Nat → Int → Option Bool
  | 0, _ => none
  | n + 1, x95263 => g18_l6B p0 (g18_l6 p0 n) x95263
def g18_l5B (p0 : T_api_Node) (rec94868 : Int → Option Bool) (x94621 : Int) : Option Bool :=
  if x94621 < (p0.Keys.length : Int) then ((getI p0.Keys x94621).bind fun x95060 => ((g54 x95060).bind fun x95075 => (if ¬ (x95075 = true) then (some false) else (if x94621 > 0 then ((getI p0.Keys (IntKind.i64.wrap (x94621 - 1))).bind fun x95084 => ((getI p0.Keys x94621).bind fun x95099 => (if (!(Op.bytesLess (strOfNums x95084).toList (strOfNums x95099).toList)) = true then (some false) else (rec94868 (IntKind.i64.wrap (x94621 + 1)))))) else (rec94868 (IntKind.i64.wrap (x94621 + 1))))))) else (g18_l6 p0 FUEL 0)
def g18_l5 (p0 : T_api_Node) : Nat → Int → Option Bool
  | 0, _ => none
  | n + 1, x94621 => g18_l5B p0 (g18_l5 p0 n) x94621
def g18_j4 (p0 : T_api_Node) (x93387 : Bool) : Option Bool :=
  if x93387 = true then (some false) else (g18_l5 p0 FUEL 0)
def g18 (p0 : T_api_Node) : Option Bool :=
  if p0.Leaf = true then ((some (IntKind.i64.wrap ((p0.Keys.length : Int) + (p0.Kids.length : Int)))).bind fun x93369 => (if x93369 > 0 then (g18_j1 p0 true) else (g18_j1 p0 (decide ((p0.Pairs.length : Int) > 255))))) else (if (p0.Pairs.length : Int) > 0 then (g18_j4 p0 true) else (if (p0.Keys.length : Int) < 1 then (g18_j4 p0 true) else (if (p0.Keys.length : Int) > 255 then (g18_j4 p0 true) else (g18_j4 p0 (decide ((p0.Kids.length : Int) ≠ (IntKind.i64.wrap ((p0.Keys.length : Int) + 1))))))))

-- incipit/incipitref10.Find (('agg', ('.', 'ro', 'ro', 'ro')), 'ro')
def g17_j1 (p0 : T_api_Node) (p1 : (List Int)) (x96668 : Int) : Option (Int × Bool) :=
  if x96668 < (p0.Pairs.length : Int) then ((getI p0.Pairs x96668).bind fun x96710 => (some (x96668, decide ((strOfNums x96710.Key).toList = (strOfNums p1).toList)))) else (some (x96668, false))
def g17_l2B (p0 : T_api_Node) (p1 : (List Int)) (rec97002 : Int → Option (Int × Bool)) (x96869 : Int) : Option (Int × Bool) :=
  if x96869 < (p0.Pairs.length : Int) then ((getI p0.Pairs x96869).bind fun x97109 => (if (Op.bytesLess (strOfNums x97109.Key).toList (strOfNums p1).toList) = true then (rec97002 (IntKind.i64.wrap (x96869 + 1))) else (g17_j1 p0 p1 x96869))) else (g17_j1 p0 p1 x96869)
def g17_l2 (p0 : T_api_Node) (p1 : (List Int)) : Nat → Int → Option (Int × Bool)
  | 0, _ => none
  | n + 1, x96869 => g17_l2B p0 p1 (g17_l2 p0 p1 n) x96869
def g17 (p0 : T_api_Node) (p1 : (List Int)) : Option (Int × Bool) :=
  (g18 p0).bind fun x96259 => (if ¬ (x96259 = true) then (some (0, false)) else (g17_l2 p0 p1 FUEL 0))

-- incipit/incipitref10.Kid (('agg', ('.', 'ro', 'ro', 'ro')), 'ro')
def g19_l1B (p0 : T_api_Node) (p1 : (List Int)) (rec98601 : Int → Option Int) (x98476 : Int) : Option Int :=
  (g18 p0).bind fun x98701 => (if x98701 = true then (if x98476 < (p0.Keys.length : Int) then ((getI p0.Keys x98476).bind fun x98710 => (if (Op.bytesLess (strOfNums x98710).toList (strOfNums p1).toList || (strOfNums x98710).toList == (strOfNums p1).toList) = true then (rec98601 (IntKind.i64.wrap (x98476 + 1))) else (some x98476))) else (some x98476)) else (some x98476))
def g19_l1 (p0 : T_api_Node) (p1 : (List Int)) : Nat → Int → Option Int
  | 0, _ => none
  | n + 1, x98476 => g19_l1B p0 p1 (g19_l1 p0 p1 n) x98476
def g19 (p0 : T_api_Node) (p1 : (List Int)) : Option Int :=
  g19_l1 p0 p1 FUEL 0

-- slices.Concat[[]byte,byte] 
def g95_l3B (p0 : (List (List Int))) (rec99868 : (List Int) → Int → Option (List Int)) (x99830 : (List Int)) (x99838 : Int) : Option (List Int) :=
  if x99838 < (p0.length : Int) then ((getI p0 x99838).bind fun x99873 => ((appI x99830 x99873 1).bind fun x99890 => (rec99868 x99890 (IntKind.i64.wrap (x99838 + 1))))) else (some x99830)
def g95_l3 (p0 : (List (List Int))) : Nat → (List Int) → Int → Option (List Int)
  | 0, _, _ => none
  | n + 1, x99830, x99838 => g95_l3B p0 (g95_l3 p0 n) x99830 x99838
def g95_j2 (p0 : (List (List Int))) (x99692 : (List Int)) : Option (List Int) :=
  g95_l3 p0 FUEL x99692 0
def g95_l1B (p0 : (List (List Int))) (rec99591 : Int → Int → Option (List Int)) (x99557 : Int) (x99558 : Int) : Option (List Int) :=
  if x99558 < (p0.length : Int) then ((getI p0 x99558).bind fun x99611 => (if (IntKind.i64.wrap (x99557 + (x99611.length : Int))) < 0 then (none) else (rec99591 (IntKind.i64.wrap (x99557 + (x99611.length : Int))) (IntKind.i64.wrap (x99558 + 1))))) else (if x99557 < 0 then (none) else (if (IntKind.i64.wrap (x99557 - 0)) > 0 then ((appZI ([] : List Int) (IntKind.i64.wrap (x99557 - 0)) 0 1).bind fun x99904 => (if (0 : Int) ≤ 0 ∧ 0 ≤ (x99904.length : Int) then (g95_j2 p0 (List.take ((0 : Int).toNat) x99904)) else none)) else (g95_j2 p0 ([] : List Int))))
def g95_l1 (p0 : (List (List Int))) : Nat → Int → Int → Option (List Int)
  | 0, _, _ => none
  | n + 1, x99557, x99558 => g95_l1B p0 (g95_l1 p0 n) x99557 x99558
def g95 (p0 : (List (List Int))) : Option (List Int) :=
  g95_l1 p0 FUEL 0 0

-- incipit/node.own 
def g60 (p0 : (List Int)) : Option (List Int) :=
  (g95 ([([] : List Int), p0] : List (List Int))).bind fun x99969 => (some x99969)

-- incipit/node.ownPair (('agg', ('ro', 'ro')),)
def g57 (p0 : T_api_Pair) : Option T_api_Pair :=
  (g60 p0.Key).bind fun x100114 => ((g60 p0.Val).bind fun x100128 => (some (T_api_Pair.mk x100114 x100128)))

-- incipit/incipitlaw10.leaf 
def g21 (p0 : (List T_api_Pair)) : Option T_api_Node :=
  some (T_api_Node.mk true p0 ([] : List (List Int)) ([] : List Int))

-- incipit/incipitref10.Same (('agg', ('.', 'ro', 'ro', 'ro')), ('agg', ('.', 'ro', 'ro', 'ro')))
def g20_l4B (p0 : T_api_Node) (p1 : T_api_Node) (rec108913 : Int → Option Bool) (x108858 : Int) : Option Bool :=
  if x108858 < (p0.Kids.length : Int) then ((getI p0.Kids x108858).bind fun x108949 => ((getI p1.Kids x108858).bind fun x108958 => (if x108949 ≠ x108958 then (some false) else (rec108913 (IntKind.i64.wrap (x108858 + 1)))))) else (some true)
def g20_l4 (p0 : T_api_Node) (p1 : T_api_Node) : Nat → Int → Option Bool
  | 0, _ => none
  | n + 1, x108858 => g20_l4B p0 p1 (g20_l4 p0 p1 n) x108858
def g20_l3B (p0 : T_api_Node) (p1 : T_api_Node) (rec108559 : Int → Option Bool) (x108480 : Int) : Option Bool :=
  if x108480 < (p0.Keys.length : Int) then ((getI p0.Keys x108480).bind fun x108607 => ((getI p1.Keys x108480).bind fun x108622 => (if (strOfNums x108607).toList ≠ (strOfNums x108622).toList then (some false) else (rec108559 (IntKind.i64.wrap (x108480 + 1)))))) else (g20_l4 p0 p1 FUEL 0)
def g20_l3 (p0 : T_api_Node) (p1 : T_api_Node) : Nat → Int → Option Bool
  | 0, _ => none
  | n + 1, x108480 => g20_l3B p0 p1 (g20_l3 p0 p1 n) x108480
def g20_l2B (p0 : T_api_Node) (p1 : T_api_Node) (rec107729 : Int → Option Bool) (x107294 : Int) : Option Bool :=
  if x107294 < (p0.Pairs.length : Int) then ((getI p0.Pairs x107294).bind fun x108062 => ((getI p1.Pairs x107294).bind fun x108087 => (if (strOfNums x108062.Key).toList ≠ (strOfNums x108087.Key).toList then (some false) else ((getI p0.Pairs x107294).bind fun x108113 => ((getI p1.Pairs x107294).bind fun x108138 => (if (strOfNums x108113.Val).toList ≠ (strOfNums x108138.Val).toList then (some false) else (rec107729 (IntKind.i64.wrap (x107294 + 1))))))))) else (g20_l3 p0 p1 FUEL 0)
def g20_l2 (p0 : T_api_Node) (p1 : T_api_Node) : Nat → Int → Option Bool
  | 0, _ => none
  | n + 1, x107294 => g20_l2B p0 p1 (g20_l2 p0 p1 n) x107294
def g20_j1 (p0 : T_api_Node) (p1 : T_api_Node) (x105552 : Bool) : Option Bool :=
  if x105552 = true then (some false) else (g20_l2 p0 p1 FUEL 0)
def g20 (p0 : T_api_Node) (p1 : T_api_Node) : Option Bool :=
  if p0.Leaf ≠ p1.Leaf then (g20_j1 p0 p1 true) else (if (p0.Pairs.length : Int) ≠ (p1.Pairs.length : Int) then (g20_j1 p0 p1 true) else (if (p0.Keys.length : Int) ≠ (p1.Keys.length : Int) then (g20_j1 p0 p1 true) else (g20_j1 p0 p1 (decide ((p0.Kids.length : Int) ≠ (p1.Kids.length : Int))))))

-- incipit/incipitlaw10.NodeFinds (('agg', ('.', 'ro', 'ro', 'ro')), 'ro', '.')
def g4_j3 (x122615 : Bool) : Option Bool :=
  some x122615
def g4_j5 (y124570 : (List T_api_Pair)) (x126430 : (List T_api_Pair)) : Option Bool :=
  (g21 y124570).bind fun x126484 => ((g20 (T_api_Node.mk true x126430 [] []) x126484).bind fun x126521 => (g4_j3 x126521))
def g4_l6B (p0 : T_api_Node) (p2 : Int) (y124570 : (List T_api_Pair)) (rec126942 : Int → (List T_api_Pair) → Option Bool) (x126747 : Int) (x126748 : (List T_api_Pair)) : Option Bool :=
  if x126747 < (p0.Pairs.length : Int) then ((getI p0.Pairs x126747).bind fun x127038 => ((g57 x127038).bind fun x127067 => (if (x126748.length : Int) ≥ (IntKind.i64.wrap p2) then (g4_j5 y124570 x126748) else ((appI x126748 ([x127067] : List T_api_Pair) 48).bind fun x127119 => (rec126942 (IntKind.i64.wrap (x126747 + 1)) x127119))))) else (g4_j5 y124570 x126748)
def g4_l6 (p0 : T_api_Node) (p2 : Int) (y124570 : (List T_api_Pair)) : Nat → Int → (List T_api_Pair) → Option Bool
  | 0, _, _ => none
  | n + 1, x126747, x126748 => g4_l6B p0 p2 y124570 (g4_l6 p0 p2 y124570 n) x126747 x126748
def g4_j4 (p0 : T_api_Node) (p2 : Int) (x117491 : (List T_api_Pair)) (x117498 : Int) (x124469 : (List T_api_Pair)) : Option Bool :=
  (g21 x117491).bind fun x124523 => ((g20 (T_api_Node.mk true x124469 [] []) x124523).bind fun x124560 => (if x124560 = true then ((cutI x117491 0 x117498).bind fun y124570 => ((g50 p0).bind fun x126548 => (if ¬ (x126548 = true) then (g4_j5 y124570 ([] : List T_api_Pair)) else (g4_l6 p0 p2 y124570 FUEL 0 ([] : List T_api_Pair))))) else (g4_j3 false)))
def g4_l7B (p0 : T_api_Node) (p2 : Int) (x117491 : (List T_api_Pair)) (x117498 : Int) (rec127540 : Int → (List T_api_Pair) → Option Bool) (x127345 : Int) (x127346 : (List T_api_Pair)) : Option Bool :=
  if x127345 < (p0.Pairs.length : Int) then ((getI p0.Pairs x127345).bind fun x127636 => ((g57 x127636).bind fun x127665 => (if (x127346.length : Int) ≥ 1048576 then (g4_j4 p0 p2 x117491 x117498 x127346) else ((appI x127346 ([x127665] : List T_api_Pair) 48).bind fun x127717 => (rec127540 (IntKind.i64.wrap (x127345 + 1)) x127717))))) else (g4_j4 p0 p2 x117491 x117498 x127346)
def g4_l7 (p0 : T_api_Node) (p2 : Int) (x117491 : (List T_api_Pair)) (x117498 : Int) : Nat → Int → (List T_api_Pair) → Option Bool
  | 0, _, _ => none
  | n + 1, x127345, x127346 => g4_l7B p0 p2 x117491 x117498 (g4_l7 p0 p2 x117491 x117498 n) x127345 x127346
def g4_j2 (p0 : T_api_Node) (p1 : (List Int)) (p2 : Int) (x117459 : (Int × Bool)) (x117466 : (Int × Bool)) (x117491 : (List T_api_Pair)) : Option Bool :=
  (some (if IntKind.i64.wrap p2 < (x117491.length : Int) then IntKind.i64.wrap p2 else (x117491.length : Int))).bind fun x117498 => (if x117459.1 = x117466.1 then (if x117459.2 = x117466.2 then ((g13 p0 p1).bind fun x122628 => ((g19 p0 p1).bind fun x122635 => (if x122628 = x122635 then ((g50 p0).bind fun x127154 => (if ¬ (x127154 = true) then (g4_j4 p0 p2 x117491 x117498 ([] : List T_api_Pair)) else (g4_l7 p0 p2 x117491 x117498 FUEL 0 ([] : List T_api_Pair)))) else (g4_j3 false)))) else (g4_j3 false)) else (g4_j3 false))
def g4_j1 (p0 : T_api_Node) (p1 : (List Int)) (p2 : Int) (x117448 : Bool) : Option Bool :=
  if x117448 = true then ((g11).bind fun x117452 => (some x117452)) else ((g16 p0 p1).bind fun x117459 => ((g17 p0 p1).bind fun x117466 => (if p0.Leaf = true then ((g18 p0).bind fun x127745 => (if x127745 = true then (g4_j2 p0 p1 p2 x117459 x117466 p0.Pairs) else (g4_j2 p0 p1 p2 x117459 x117466 []))) else (g4_j2 p0 p1 p2 x117459 x117466 []))))
def g4 (p0 : T_api_Node) (p1 : (List Int)) (p2 : Int) : Option Bool :=
  (g11).bind fun x127755 => (if ¬ (x127755 = true) then (g4_j1 p0 p1 p2 true) else ((g12 ([p0] : List T_api_Node)).bind fun x127772 => (if ¬ (x127772 = true) then (g4_j1 p0 p1 p2 true) else (g4_j1 p0 p1 p2 (decide ((p1.length : Int) > 300))))))

end Go.Proofs.Ytefjbhogpgihaaa
