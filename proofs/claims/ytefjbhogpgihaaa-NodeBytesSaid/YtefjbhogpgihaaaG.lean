/- PRINTED BY sy.py: what each Go function computes, in plain Lean. -/
import Derived.Test.YtefjbhogpgihaaaSXaa
namespace Go.Proofs.Ytefjbhogpgihaaa
open Go Go.SX Go.RowKit
set_option maxRecDepth 100000
set_option linter.unusedVariables false
structure T_api_Pair where
  Key : (List Int)
  Val : (List Int)
  deriving DecidableEq
structure T_api_Node where
  Leaf : Bool
  Pairs : (List T_api_Pair)
  Keys : (List (List Int))
  Kids : (List Int)
  deriving DecidableEq
structure T_pack_Reader where
  b : (List Int)
  err : Int
  made : Bool
  deriving DecidableEq
structure T_incipitref10_taker where
  b : (List Int)
  at_ : Int
  deriving DecidableEq
-- incipit/node.isKey 
def g78 (p0 : (List Int)) : Option Bool :=
  if (p0.length : Int) > 0 then (some (decide ((p0.length : Int) ≤ 25))) else (some false)

-- bytes.Compare 
def g15 (p0 : (List Int)) (p1 : (List Int)) : Option Int :=
  some (cmpB p0 p1)

-- incipit/node.may$1 (('agg', ('ro', 'ro')),)
def g91 (p0 : T_api_Pair) : Option Bool :=
  some (decide ((p0.Val.length : Int) > 24))

-- incipit/node.isKid 
def g83 (p0 : Int) : Option Bool :=
  if p0 ≥ 2 then (some (decide (p0 < 2048))) else (some false)

-- incipit/node.may$2 
def g93 (p0 : Int) : Option Bool :=
  (g83 p0).bind fun x19927 => (some (decide (¬ (x19927 = true))))

-- incipit/node.may (('agg', ('.', 'ro', 'ro', 'ro')),)
def g50_j3 (x45603 : Bool) : Option Bool :=
  some x45603
def g50_j2 (p0 : T_api_Node) (x45595 : Int) : Option Bool :=
  if ¬ (x45595 ≥ 0) then (if (p0.Pairs.length : Int) ≤ 255 then ((some (IntKind.i64.wrap ((p0.Keys.length : Int) + (p0.Kids.length : Int)))).bind fun x45608 => (g50_j3 (decide (x45608 = 0)))) else (g50_j3 false)) else (g50_j3 false)
def g50_l4B (p0 : T_api_Node) (rec45955 : Int → Option Bool) (x45886 : Int) : Option Bool :=
  if x45886 < (p0.Pairs.length : Int) then ((getI p0.Pairs x45886).bind fun x45992 => ((g91 x45992).bind fun x46016 => (if x46016 = true then (g50_j2 p0 x45886) else (rec45955 (IntKind.i64.wrap (x45886 + 1)))))) else (g50_j2 p0 (-1))
def g50_l4 (p0 : T_api_Node) : Nat → Int → Option Bool
  | 0, _ => none
  | n + 1, x45886 => g50_l4B p0 (g50_l4 p0 n) x45886
def g50_j6 (x46725 : Bool) : Option Bool :=
  some x46725
def g50_j5 (p0 : T_api_Node) (x46709 : Int) : Option Bool :=
  if ¬ (x46709 ≥ 0) then (if (p0.Pairs.length : Int) = 0 then (if (p0.Keys.length : Int) > 0 then (if (p0.Keys.length : Int) ≤ 255 then (g50_j6 (decide ((p0.Kids.length : Int) = (IntKind.i64.wrap ((p0.Keys.length : Int) + 1))))) else (g50_j6 false)) else (g50_j6 false)) else (g50_j6 false)) else (g50_j6 false)
def g50_l7B (p0 : T_api_Node) (rec46919 : Int → Option Bool) (x46882 : Int) : Option Bool :=
  if x46882 < (p0.Kids.length : Int) then ((getI p0.Kids x46882).bind fun x46940 => ((g93 x46940).bind fun x46948 => (if x46948 = true then (g50_j5 p0 x46882) else (rec46919 (IntKind.i64.wrap (x46882 + 1)))))) else (g50_j5 p0 (-1))
def g50_l7 (p0 : T_api_Node) : Nat → Int → Option Bool
  | 0, _ => none
  | n + 1, x46882 => g50_l7B p0 (g50_l7 p0 n) x46882
def g50_j1 (p0 : T_api_Node) (x42644 : Bool) : Option Bool :=
  if ¬ (x42644 = true) then (some false) else (if p0.Leaf = true then (g50_l4 p0 FUEL 0) else (g50_l7 p0 FUEL 0))
def g50_l9B (p0 : T_api_Node) (rec52163 : Int → (List Int) → Bool → Option Bool) (x51943 : Int) (x51944 : (List Int)) (z51949 : Bool) : Option Bool :=
  if x51943 < (p0.Keys.length : Int) then ((getI p0.Keys x51943).bind fun x52272 => ((g78 x52272).bind fun x52343 => (if ¬ (x52343 = true) then (g50_j1 p0 false) else (if (!z51949) = true then ((g15 x51944 x52272).bind fun x52360 => (if x52360 ≥ 0 then (g50_j1 p0 false) else (if 0 < x52272.length then (rec52163 (IntKind.i64.wrap (x51943 + 1)) x52272 false) else none))) else (if 0 < x52272.length then (rec52163 (IntKind.i64.wrap (x51943 + 1)) x52272 false) else none))))) else (g50_j1 p0 true)
def g50_l9 (p0 : T_api_Node) : Nat → Int → (List Int) → Bool → Option Bool
  | 0, _, _, _ => none
  | n + 1, x51943, x51944, z51949 => g50_l9B p0 (g50_l9 p0 n) x51943 x51944 z51949
def g50_l8B (p0 : T_api_Node) (rec51251 : Int → (List Int) → Bool → Option Bool) (x51001 : Int) (x51002 : (List Int)) (z51007 : Bool) : Option Bool :=
  if x51001 < (p0.Pairs.length : Int) then ((getI p0.Pairs x51001).bind fun x51375 => ((g78 x51375.Key).bind fun x51461 => (if ¬ (x51461 = true) then (g50_j1 p0 false) else (if (!z51007) = true then ((g15 x51002 x51375.Key).bind fun x51478 => (if x51478 ≥ 0 then (g50_j1 p0 false) else (if 0 < x51375.Key.length then (rec51251 (IntKind.i64.wrap (x51001 + 1)) x51375.Key false) else none))) else (if 0 < x51375.Key.length then (rec51251 (IntKind.i64.wrap (x51001 + 1)) x51375.Key false) else none))))) else (g50_l9 p0 FUEL 0 x51002 z51007)
def g50_l8 (p0 : T_api_Node) : Nat → Int → (List Int) → Bool → Option Bool
  | 0, _, _, _ => none
  | n + 1, x51001, x51002, z51007 => g50_l8B p0 (g50_l8 p0 n) x51001 x51002 z51007
def g50 (p0 : T_api_Node) : Option Bool :=
  g50_l8 p0 FUEL 0 [] true

-- incipit/node.many (('agg', ('.', 'ro', 'ro', 'ro')),)
def g66 (p0 : T_api_Node) : Option Int :=
  (some (IntKind.i64.wrap ((p0.Pairs.length : Int) + (p0.Keys.length : Int)))).bind fun x52454 => (some x52454)

-- incipit/node.width (('agg', ('.', 'ro', 'ro', 'ro')), '.')
def g94 (p0 : T_api_Node) (p1 : Int) : Option Int :=
  if p0.Leaf = true then ((getI p0.Pairs p1).bind fun x52694 => ((getI p0.Pairs p1).bind fun x52719 => ((some (IntKind.i64.wrap ((IntKind.i64.wrap (2 + (x52694.Key.length : Int))) + (x52719.Val.length : Int)))).bind fun x52744 => (some x52744)))) else ((getI p0.Keys p1).bind fun x52746 => (some (IntKind.i64.wrap (3 + (x52746.length : Int)))))

-- incipit/node.size (('agg', ('.', 'ro', 'ro', 'ro')),)
def g52_l2B (p0 : T_api_Node) (x52906 : Int) (rec52937 : Int → Int → Option Int) (x52924 : Int) (x52925 : Int) : Option Int :=
  if x52925 < x52906 then ((g94 p0 x52925).bind fun x52942 => (rec52937 (IntKind.i64.wrap (x52924 + x52942)) (IntKind.i64.wrap (x52925 + 1)))) else (some x52924)
def g52_l2 (p0 : T_api_Node) (x52906 : Int) : Nat → Int → Int → Option Int
  | 0, _, _ => none
  | n + 1, x52924, x52925 => g52_l2B p0 x52906 (g52_l2 p0 x52906 n) x52924 x52925
def g52_j1 (p0 : T_api_Node) (x52860 : Int) : Option Int :=
  (g66 p0).bind fun x52906 => (g52_l2 p0 x52906 FUEL x52860 0)
def g52 (p0 : T_api_Node) : Option Int :=
  if ¬ (p0.Leaf = true) then (g52_j1 p0 3) else (g52_j1 p0 1)

-- incipit/node.Check (('agg', ('.', 'ro', 'ro', 'ro')),)
def g26 (p0 : T_api_Node) : Option Int :=
  (g50 p0).bind fun x53009 => (if ¬ (x53009 = true) then (some 100) else ((g52 p0).bind fun x53017 => (if x53017 > 240 then (some 3) else (some 0))))

-- incipit/pack.Text 
def g96 (p0 : (List Int)) (p1 : (List Int)) : Option ((List Int) × Int) :=
  if (p1.length : Int) > 255 then (some (([] : List Int), 3)) else ((some (IntKind.i64.wrap ((p0.length : Int) + (IntKind.i64.wrap (1 + (p1.length : Int)))))).bind fun x53443 => ((repI x53443 0 1).bind fun x53445 => ((some (copyI x53445 0 (x53445.length : Int) p0)).bind fun x53462 => (if (0 : Int) ≤ (p0.length : Int) ∧ (p0.length : Int) ≤ (x53462.length : Int) ∧ (x53462.length : Int) ≤ (x53462.length : Int) then (if (0 : Int) ≤ 0 ∧ 0 < (x53462.length : Int) - (p0.length : Int) then ((getI x53462 ((p0.length : Int) + 0)).bind fun x53480 => ((setI x53462 ((p0.length : Int) + 0) (IntKind.u8.wrap (p1.length : Int))).bind fun y53485 => (if (0 : Int) ≤ 1 ∧ 1 ≤ (x53462.length : Int) - (p0.length : Int) ∧ (x53462.length : Int) - (p0.length : Int) ≤ (x53462.length : Int) - (p0.length : Int) then ((some (copyI y53485 ((p0.length : Int) + 1) ((p0.length : Int) + ((x53462.length : Int) - (p0.length : Int))) p1)).bind fun x53511 => (some (x53511, 0))) else none))) else none) else none))))

-- incipit/node.text 
def g67 (p0 : (List Int)) (p1 : (List Int)) : Option (List Int) :=
  (g96 p0 p1).bind fun x53542 => (some x53542.1)

-- incipit/pack.wide 
def g97_l1B (p0 : (List Int)) (p1 : Int) (p2 : Int) (x54308 : (List Int)) (rec54433 : Int → (List Int) → Option (List Int)) (x54408 : Int) (x54409 : (List Int)) : Option (List Int) :=
  if x54408 < p2 then (if 0 ≤ (IntKind.u64.wrap (IntKind.i64.wrap (8 * x54408))) then ((some (shrI .u64 p1 (IntKind.u64.wrap (IntKind.i64.wrap (8 * x54408))))).bind fun x54439 => (if (0 : Int) ≤ IntKind.i64.wrap ((IntKind.i64.wrap (p2 - 1)) - x54408) ∧ IntKind.i64.wrap ((IntKind.i64.wrap (p2 - 1)) - x54408) < (x54308.length : Int) - (p0.length : Int) then ((getI x54409 ((p0.length : Int) + (IntKind.i64.wrap ((IntKind.i64.wrap (p2 - 1)) - x54408)))).bind fun x54441 => ((setI x54409 ((p0.length : Int) + (IntKind.i64.wrap ((IntKind.i64.wrap (p2 - 1)) - x54408))) (IntKind.u8.wrap x54439)).bind fun y54446 => (rec54433 (IntKind.i64.wrap (x54408 + 1)) y54446))) else none)) else none) else (some x54409)
def g97_l1 (p0 : (List Int)) (p1 : Int) (p2 : Int) (x54308 : (List Int)) : Nat → Int → (List Int) → Option (List Int)
  | 0, _, _ => none
  | n + 1, x54408, x54409 => g97_l1B p0 p1 p2 x54308 (g97_l1 p0 p1 p2 x54308 n) x54408 x54409
def g97 (p0 : (List Int)) (p1 : Int) (p2 : Int) : Option (List Int) :=
  (repI (IntKind.i64.wrap ((p0.length : Int) + p2)) 0 1).bind fun x54291 => ((some (copyI x54291 0 (x54291.length : Int) p0)).bind fun x54308 => (if (0 : Int) ≤ (p0.length : Int) ∧ (p0.length : Int) ≤ (x54308.length : Int) ∧ (x54308.length : Int) ≤ (x54308.length : Int) then (g97_l1 p0 p1 p2 x54308 FUEL 0 x54308) else none))

-- incipit/pack.U16 
def g68 (p0 : (List Int)) (p1 : Int) : Option (List Int) :=
  (g97 p0 (IntKind.u64.wrap p1) 2).bind fun x54481 => (some x54481)

-- incipit/node.Put (('agg', ('.', 'ro', 'ro', 'ro')),)
def g30_l3B (p0 : T_api_Node) (x55641 : Int) (rec56040 : (List Int) → Int → Option (Int × (List Int) × Int)) (x55956 : (List Int)) (x55964 : Int) : Option (Int × (List Int) × Int) :=
  if x55964 < (p0.Keys.length : Int) then ((getI p0.Keys x55964).bind fun x56045 => ((getI p0.Kids (IntKind.i64.wrap (x55964 + 1))).bind fun x56065 => ((g67 x55956 x56045).bind fun x56078 => ((g68 x56078 (IntKind.u16.wrap x56065)).bind fun x56099 => (rec56040 x56099 (IntKind.i64.wrap (x55964 + 1))))))) else ((appZI x55956 (IntKind.i64.wrap (240 - (x55956.length : Int))) 0 1).bind fun x56116 => (some (x55641, x56116, 0)))
def g30_l3 (p0 : T_api_Node) (x55641 : Int) : Nat → (List Int) → Int → Option (Int × (List Int) × Int)
  | 0, _, _ => none
  | n + 1, x55956, x55964 => g30_l3B p0 x55641 (g30_l3 p0 x55641 n) x55956 x55964
def g30_j2 (p0 : T_api_Node) (x55633 : (List Int)) (x55641 : Int) : Option (Int × (List Int) × Int) :=
  g30_l3 p0 x55641 FUEL x55633 0
def g30_l1B (p0 : T_api_Node) (rec55520 : (List Int) → Int → Option (Int × (List Int) × Int)) (x55430 : (List Int)) (x55438 : Int) : Option (Int × (List Int) × Int) :=
  if x55438 < (p0.Pairs.length : Int) then ((getI p0.Pairs x55438).bind fun x55525 => ((g67 x55430 x55525.Key).bind fun x55564 => ((g67 x55564 x55525.Val).bind fun x55585 => (rec55520 x55585 (IntKind.i64.wrap (x55438 + 1)))))) else (if ¬ (p0.Leaf = true) then ((getI p0.Kids 0).bind fun x56129 => ((g68 x55430 (IntKind.u16.wrap x56129)).bind fun x56141 => (g30_j2 p0 x56141 4))) else (g30_j2 p0 x55430 3))
def g30_l1 (p0 : T_api_Node) : Nat → (List Int) → Int → Option (Int × (List Int) × Int)
  | 0, _, _ => none
  | n + 1, x55430, x55438 => g30_l1B p0 (g30_l1 p0 n) x55430 x55438
def g30 (p0 : T_api_Node) : Option (Int × (List Int) × Int) :=
  (g26 p0).bind fun x55075 => (if x55075 ≠ 0 then (some (0, ([] : List Int), x55075)) else ((g66 p0).bind fun x55084 => (g30_l1 p0 FUEL ([IntKind.u8.wrap x55084] : List Int) 0)))

-- bytes.Equal 
def g34 (p0 : (List Int)) (p1 : (List Int)) : Option Bool :=
  some (decide ((strOfNums p0).toList = (strOfNums p1).toList))

-- incipit/node.ahead (('agg', ('.', 'ro', 'ro', 'ro')), 'ro', '.')
def g51_j1 (x60527 : Int) : Option Int :=
  some x60527
def g51_l3B (p0 : T_api_Node) (p1 : (List Int)) (p2 : Bool) (rec61770 : Int → Int → Option Int) (x61640 : Int) (x61641 : Int) : Option Int :=
  if x61640 < (p0.Keys.length : Int) then ((getI p0.Keys x61640).bind fun x61837 => ((g15 x61837 p1).bind fun x61872 => (if x61872 < 0 then (if x61872 < 0 then (rec61770 (IntKind.i64.wrap (x61640 + 1)) (IntKind.i64.wrap (x61641 + 1))) else (g51_j1 x61641)) else (if x61872 = 0 then (if p2 = true then (rec61770 (IntKind.i64.wrap (x61640 + 1)) (IntKind.i64.wrap (x61641 + 1))) else (g51_j1 x61641)) else (g51_j1 x61641))))) else (g51_j1 x61641)
def g51_l3 (p0 : T_api_Node) (p1 : (List Int)) (p2 : Bool) : Nat → Int → Int → Option Int
  | 0, _, _ => none
  | n + 1, x61640, x61641 => g51_l3B p0 p1 p2 (g51_l3 p0 p1 p2 n) x61640 x61641
def g51_l2B (p0 : T_api_Node) (p1 : (List Int)) (p2 : Bool) (rec61347 : Int → Int → Option Int) (x61187 : Int) (x61188 : Int) : Option Int :=
  if x61187 < (p0.Pairs.length : Int) then ((getI p0.Pairs x61187).bind fun x61429 => ((g15 x61429.Key p1).bind fun x61479 => (if x61479 < 0 then (if x61479 < 0 then (rec61347 (IntKind.i64.wrap (x61187 + 1)) (IntKind.i64.wrap (x61188 + 1))) else (g51_j1 x61188)) else (if x61479 = 0 then (if p2 = true then (rec61347 (IntKind.i64.wrap (x61187 + 1)) (IntKind.i64.wrap (x61188 + 1))) else (g51_j1 x61188)) else (g51_j1 x61188))))) else (g51_l3 p0 p1 p2 FUEL 0 x61188)
def g51_l2 (p0 : T_api_Node) (p1 : (List Int)) (p2 : Bool) : Nat → Int → Int → Option Int
  | 0, _, _ => none
  | n + 1, x61187, x61188 => g51_l2B p0 p1 p2 (g51_l2 p0 p1 p2 n) x61187 x61188
def g51 (p0 : T_api_Node) (p1 : (List Int)) (p2 : Bool) : Option Int :=
  g51_l2 p0 p1 p2 FUEL 0 0

-- incipit/node.Kid (('agg', ('.', 'ro', 'ro', 'ro')), 'ro')
def g13 (p0 : T_api_Node) (p1 : (List Int)) : Option Int :=
  (g50 p0).bind fun x61962 => (if ¬ (x61962 = true) then (some 0) else (if p0.Leaf = true then (some 0) else ((g51 p0 p1 true).bind fun x61971 => (some x61971))))

-- incipit/incipitlaw10.live 
def g11_j1 (x62293 : Bool) : Option Bool :=
  some x62293
def g11  : Option Bool :=
  (g30 (T_api_Node.mk true ([(T_api_Pair.mk ([97] : List Int) ([7] : List Int)), (T_api_Pair.mk ([98] : List Int) [])] : List T_api_Pair) [] [])).bind fun x62158 => (if x62158.2.2 = 0 then (if x62158.1 = 3 then (if (x62158.2.1.length : Int) = 240 then ((cutI x62158.2.1 0 9).bind fun y62301 => ((g34 y62301 ([2, 1, 97, 1, 7, 1, 98, 0, 0] : List Int)).bind fun x62320 => (if x62320 = true then ((g13 (T_api_Node.mk false [] ([([98] : List Int)] : List (List Int)) ([5, 6] : List Int)) ([98] : List Int)).bind fun x62348 => (if x62348 = 1 then ((g13 (T_api_Node.mk false [] ([([98] : List Int)] : List (List Int)) ([5, 6] : List Int)) ([97, 122, 122] : List Int)).bind fun x62377 => (g11_j1 (decide (x62377 = 0)))) else (g11_j1 false))) else (g11_j1 false)))) else (g11_j1 false)) else (g11_j1 false)) else (g11_j1 false))

-- incipit/incipitlaw10.few 
def g12_l4B (x74100 : Int) (rec75269 : Int → Option Bool) (x75856 : T_api_Node) (rec76395 : Int → Option Bool) (x76362 : Int) : Option Bool :=
  if x76362 < (x75856.Keys.length : Int) then ((getI x75856.Keys x76362).bind fun x76415 => (if (x76415.length : Int) > 300 then (some false) else (rec76395 (IntKind.i64.wrap (x76362 + 1))))) else (rec75269 (IntKind.i64.wrap (x74100 + 1)))
def g12_l4 (x74100 : Int) (rec75269 : Int → Option Bool) (x75856 : T_api_Node) : Nat → Int → Option Bool
  | 0, _ => none
  | n + 1, x76362 => g12_l4B x74100 rec75269 x75856 (g12_l4 x74100 rec75269 x75856 n) x76362
def g12_l3B (x74100 : Int) (rec75269 : Int → Option Bool) (x75856 : T_api_Node) (rec76259 : Int → Option Bool) (x76190 : Int) : Option Bool :=
  if x76190 < (x75856.Pairs.length : Int) then ((getI x75856.Pairs x76190).bind fun x76296 => (if (x76296.Key.length : Int) > 300 then (some false) else (if (x76296.Val.length : Int) > 300 then (some false) else (rec76259 (IntKind.i64.wrap (x76190 + 1)))))) else (g12_l4 x74100 rec75269 x75856 FUEL 0)
def g12_l3 (x74100 : Int) (rec75269 : Int → Option Bool) (x75856 : T_api_Node) : Nat → Int → Option Bool
  | 0, _ => none
  | n + 1, x76190 => g12_l3B x74100 rec75269 x75856 (g12_l3 x74100 rec75269 x75856 n) x76190
def g12_j2 (x74100 : Int) (rec75269 : Int → Option Bool) (x75856 : T_api_Node) (x75907 : Bool) (x75908 : Bool) (x75909 : Bool) (x75910 : Bool) : Option Bool :=
  if x75910 = true then (some false) else (g12_l3 x74100 rec75269 x75856 FUEL 0)
def g12_l1B (p0 : (List T_api_Node)) (rec75269 : Int → Option Bool) (x74100 : Int) : Option Bool :=
  if x74100 < (p0.length : Int) then ((getI p0 x74100).bind fun x75856 => (if (x75856.Pairs.length : Int) > 300 then (g12_j2 x74100 rec75269 x75856 true true true true) else (if (x75856.Keys.length : Int) > 300 then (g12_j2 x74100 rec75269 x75856 false (decide ((x75856.Keys.length : Int) > 300)) true true) else (g12_j2 x74100 rec75269 x75856 false (decide ((x75856.Keys.length : Int) > 300)) false (decide ((x75856.Kids.length : Int) > 300)))))) else (some true)
def g12_l1 (p0 : (List T_api_Node)) : Nat → Int → Option Bool
  | 0, _ => none
  | n + 1, x74100 => g12_l1B p0 (g12_l1 p0 n) x74100
def g12 (p0 : (List T_api_Node)) : Option Bool :=
  g12_l1 p0 FUEL 0

-- incipit/incipitref10.Key 
def g54 (p0 : (List Int)) : Option Bool :=
  if (p0.length : Int) ≥ 1 then (some (decide ((p0.length : Int) ≤ 25))) else (some false)

-- incipit/incipitref10.Child 
def g55 (p0 : Int) : Option Bool :=
  if p0 ≥ 2 then (some (decide (p0 < 2048))) else (some false)

-- incipit/incipitref10.May (('agg', ('.', 'ro', 'ro', 'ro')),)
def g18_j3 (x92101 : Int) (rec92614 : Int → Option Bool) (x92990 : (List T_api_Pair)) (x92995 : (List Int)) (x93000 : Bool) (x93001 : Bool) (x93002 : Bool) (x93003 : Bool) (x93004 : Bool) (x93005 : Bool) : Option Bool :=
  if x93005 = true then (some false) else (rec92614 (IntKind.i64.wrap (x92101 + 1)))
def g18_l2B (p0 : T_api_Node) (rec92614 : Int → Option Bool) (x92101 : Int) : Option Bool :=
  if x92101 < (p0.Pairs.length : Int) then ((getI p0.Pairs x92101).bind fun x93017 => ((g54 x93017.Key).bind fun x93042 => (if ¬ (x93042 = true) then (g18_j3 x92101 rec92614 p0.Pairs x93017.Key x93042 (decide (¬ (x93042 = true))) true true true true) else ((getI p0.Pairs x92101).bind fun x93050 => (if (x93050.Val.length : Int) > 24 then (g18_j3 x92101 rec92614 p0.Pairs x93017.Key x93042 (decide (¬ (x93042 = true))) false (decide ((x93050.Val.length : Int) > 24)) true true) else (if x92101 > 0 then ((getI p0.Pairs (IntKind.i64.wrap (x92101 - 1))).bind fun x93077 => ((getI p0.Pairs x92101).bind fun x93102 => (g18_j3 x92101 rec92614 p0.Pairs x93017.Key x93042 (decide (¬ (x93042 = true))) false (decide ((x93050.Val.length : Int) > 24)) false (!(Op.bytesLess (strOfNums x93077.Key).toList (strOfNums x93102.Key).toList))))) else (g18_j3 x92101 rec92614 p0.Pairs x93017.Key x93042 (decide (¬ (x93042 = true))) false (decide ((x93050.Val.length : Int) > 24)) false false))))))) else (some true)
def g18_l2 (p0 : T_api_Node) : Nat → Int → Option Bool
  | 0, _ => none
  | n + 1, x92101 => g18_l2B p0 (g18_l2 p0 n) x92101
def g18_j1 (p0 : T_api_Node) (x89515 : Bool) : Option Bool :=
  if x89515 = true then (some false) else (g18_l2 p0 FUEL 0)
def g18_l6B (p0 : T_api_Node) (rec95062 : Int → Option Bool) (x95025 : Int) : Option Bool :=
  if x95025 < (p0.Kids.length : Int) then ((getI p0.Kids x95025).bind fun x95083 => ((g55 x95083).bind fun x95091 => (if ¬ (x95091 = true) then (some false) else (rec95062 (IntKind.i64.wrap (x95025 + 1)))))) else (some true)
def g18_l6 (p0 : T_api_Node) : Nat → Int → Option Bool
  | 0, _ => none
  | n + 1, x95025 => g18_l6B p0 (g18_l6 p0 n) x95025
def g18_l5B (p0 : T_api_Node) (rec94630 : Int → Option Bool) (x94383 : Int) : Option Bool :=
  if x94383 < (p0.Keys.length : Int) then ((getI p0.Keys x94383).bind fun x94822 => ((g54 x94822).bind fun x94837 => (if ¬ (x94837 = true) then (some false) else (if x94383 > 0 then ((getI p0.Keys (IntKind.i64.wrap (x94383 - 1))).bind fun x94846 => ((getI p0.Keys x94383).bind fun x94861 => (if (!(Op.bytesLess (strOfNums x94846).toList (strOfNums x94861).toList)) = true then (some false) else (rec94630 (IntKind.i64.wrap (x94383 + 1)))))) else (rec94630 (IntKind.i64.wrap (x94383 + 1))))))) else (g18_l6 p0 FUEL 0)
def g18_l5 (p0 : T_api_Node) : Nat → Int → Option Bool
  | 0, _ => none
  | n + 1, x94383 => g18_l5B p0 (g18_l5 p0 n) x94383
def g18_j4 (p0 : T_api_Node) (x93149 : Bool) : Option Bool :=
  if x93149 = true then (some false) else (g18_l5 p0 FUEL 0)
def g18 (p0 : T_api_Node) : Option Bool :=
  if p0.Leaf = true then ((some (IntKind.i64.wrap ((p0.Keys.length : Int) + (p0.Kids.length : Int)))).bind fun x93131 => (if x93131 > 0 then (g18_j1 p0 true) else (g18_j1 p0 (decide ((p0.Pairs.length : Int) > 255))))) else (if (p0.Pairs.length : Int) > 0 then (g18_j4 p0 true) else (if (p0.Keys.length : Int) < 1 then (g18_j4 p0 true) else (if (p0.Keys.length : Int) > 255 then (g18_j4 p0 true) else (g18_j4 p0 (decide ((p0.Kids.length : Int) ≠ (IntKind.i64.wrap ((p0.Keys.length : Int) + 1))))))))

-- incipit/incipitref10.lay (('agg', ('.', 'ro', 'ro', 'ro')),)
def g61_l1B (p0 : T_api_Node) (rec107635 : (List Int) → Int → Option (List Int)) (x107234 : (List Int)) (x107242 : Int) : Option (List Int) :=
  if x107242 < (p0.Pairs.length : Int) then ((getI p0.Pairs x107242).bind fun x107834 => ((appI x107234 ([IntKind.u8.wrap (x107834.Key.length : Int)] : List Int) 1).bind fun x107954 => ((appI x107954 x107834.Key 1).bind fun x107965 => ((appI x107965 ([IntKind.u8.wrap (x107834.Val.length : Int)] : List Int) 1).bind fun x108009 => ((appI x108009 x107834.Val 1).bind fun x108020 => (rec107635 x108020 (IntKind.i64.wrap (x107242 + 1)))))))) else (some x107234)
def g61_l1 (p0 : T_api_Node) : Nat → (List Int) → Int → Option (List Int)
  | 0, _, _ => none
  | n + 1, x107234, x107242 => g61_l1B p0 (g61_l1 p0 n) x107234 x107242
def g61_l2B (p0 : T_api_Node) (rec110800 : (List Int) → Int → Option (List Int)) (x110247 : (List Int)) (x110255 : Int) : Option (List Int) :=
  if x110255 < (p0.Keys.length : Int) then ((getI p0.Keys x110255).bind fun x111248 => ((getI p0.Keys x110255).bind fun x111263 => ((appI x110247 ([IntKind.u8.wrap (x111248.length : Int)] : List Int) 1).bind fun x111286 => ((appI x111286 x111263 1).bind fun x111297 => ((getI p0.Kids (IntKind.i64.wrap (x110255 + 1))).bind fun x111311 => ((getI p0.Kids (IntKind.i64.wrap (x110255 + 1))).bind fun x111320 => ((appI x111297 ([IntKind.u8.wrap (IntKind.i64.wrap (Int.tdiv x111311 256)), IntKind.u8.wrap (Int.tmod x111320 256)] : List Int) 1).bind fun x111337 => (rec110800 x111337 (IntKind.i64.wrap (x110255 + 1)))))))))) else (some x110247)
def g61_l2 (p0 : T_api_Node) : Nat → (List Int) → Int → Option (List Int)
  | 0, _, _ => none
  | n + 1, x110247, x110255 => g61_l2B p0 (g61_l2 p0 n) x110247 x110255
def g61 (p0 : T_api_Node) : Option (List Int) :=
  if p0.Leaf = true then (g61_l1 p0 FUEL ([IntKind.u8.wrap (p0.Pairs.length : Int)] : List Int) 0) else ((getI p0.Kids 0).bind fun x108036 => ((getI p0.Kids 0).bind fun x108045 => (g61_l2 p0 FUEL ([IntKind.u8.wrap (p0.Keys.length : Int), IntKind.u8.wrap (IntKind.i64.wrap (Int.tdiv x108036 256)), IntKind.u8.wrap (Int.tmod x108045 256)] : List Int) 0)))

-- incipit/incipitref10.Size (('agg', ('.', 'ro', 'ro', 'ro')),)
def g28 (p0 : T_api_Node) : Option Int :=
  (g18 p0).bind fun x111391 => (if ¬ (x111391 = true) then (some 0) else ((g61 p0).bind fun x111399 => (some (x111399.length : Int))))

-- incipit/incipitref10.Check (('agg', ('.', 'ro', 'ro', 'ro')),)
def g27 (p0 : T_api_Node) : Option Int :=
  (g18 p0).bind fun x111452 => (if ¬ (x111452 = true) then (some 100) else ((g28 p0).bind fun x111468 => (if x111468 > 240 then (some 3) else (some 0))))

-- incipit/incipitref10.Put (('agg', ('.', 'ro', 'ro', 'ro')),)
def g31_l1B (p0 : T_api_Node) (rec111816 : (List Int) → Option (Int × (List Int) × Int)) (x111788 : (List Int)) : Option (Int × (List Int) × Int) :=
  if (x111788.length : Int) < 240 then ((appI x111788 ([0] : List Int) 1).bind fun x111829 => (rec111816 x111829)) else (if p0.Leaf = true then (some (3, x111788, 0)) else (some (4, x111788, 0)))
def g31_l1 (p0 : T_api_Node) : Nat → (List Int) → Option (Int × (List Int) × Int)
  | 0, _ => none
  | n + 1, x111788 => g31_l1B p0 (g31_l1 p0 n) x111788
def g31 (p0 : T_api_Node) : Option (Int × (List Int) × Int) :=
  (g27 p0).bind fun x111674 => (if x111674 ≠ 0 then (some (0, ([] : List Int), x111674)) else ((g61 p0).bind fun x111683 => (g31_l1 p0 FUEL x111683)))

-- incipit/pack.Read 
def g69 (p0 : (List Int)) : Option T_pack_Reader :=
  (repI (IntKind.i64.wrap ((p0.length : Int) + 0)) 0 1).bind fun x111996 => ((some (copyI x111996 0 (x111996.length : Int) p0)).bind fun x112013 => (if (0 : Int) ≤ (p0.length : Int) ∧ (p0.length : Int) ≤ (x112013.length : Int) ∧ (x112013.length : Int) ≤ (x112013.length : Int) then (some (T_pack_Reader.mk x112013 0 true)) else none))

-- (*incipit/pack.Reader).none (('obj', 118, ('own', '.', '.')),)
def g113 (p0 : T_pack_Reader) : Option Bool :=
  if ¬ (p0.made = true) then (some true) else (some (decide (p0.err ≠ 0)))

-- (*incipit/pack.Reader).fails (('obj', 118, ('own', '.', '.')), '.')
def g114 (p0 : T_pack_Reader) (p1 : Int) : Option T_pack_Reader :=
  some (T_pack_Reader.mk p0.b p1 p0.made)

-- (*incipit/pack.Reader).next (('obj', 118, ('own', '.', '.')), '.')
def g115 (p0 : T_pack_Reader) (p1 : Int) : Option ((List Int) × T_pack_Reader) :=
  (g113 p0).bind fun x112238 => (if x112238 = true then (some ([], p0)) else (if p1 > (p0.b.length : Int) then ((g114 p0 10).bind fun x112270 => (some ([], x112270))) else (if p1 ≤ p1 ∧ p1 ≤ (p0.b.length : Int) then ((cutI p0.b 0 p1).bind fun y112292 => ((cutI p0.b p1 (p0.b.length : Int)).bind fun y112303 => (some (y112292, (T_pack_Reader.mk y112303 p0.err p0.made))))) else none)))

-- (*incipit/pack.Reader).number (('obj', 118, ('own', '.', '.')), '.')
def g112_l1B (x112493 : ((List Int) × T_pack_Reader)) (rec112532 : Int → Int → Option (Int × T_pack_Reader)) (x112520 : Int) (x112521 : Int) : Option (Int × T_pack_Reader) :=
  if x112521 < (x112493.1.length : Int) then ((getI x112493.1 x112521).bind fun x112537 => (rec112532 (orI .u64 (shlI .u64 x112520 8) (IntKind.u64.wrap x112537)) (IntKind.i64.wrap (x112521 + 1)))) else (some (x112520, x112493.2))
def g112_l1 (x112493 : ((List Int) × T_pack_Reader)) : Nat → Int → Int → Option (Int × T_pack_Reader)
  | 0, _, _ => none
  | n + 1, x112520, x112521 => g112_l1B x112493 (g112_l1 x112493 n) x112520 x112521
def g112 (p0 : T_pack_Reader) (p1 : Int) : Option (Int × T_pack_Reader) :=
  (g115 p0 p1).bind fun x112493 => (g112_l1 x112493 FUEL 0 0)

-- (*incipit/pack.Reader).U8 (('obj', 118, ('own', '.', '.')),)
def g99 (p0 : T_pack_Reader) : Option (Int × T_pack_Reader) :=
  (g112 p0 1).bind fun x112570 => (some (IntKind.u8.wrap x112570.1, x112570.2))

-- (*incipit/pack.Reader).none (('obj', 118, ('ro', '.', '.')),)
def g113_1 (p0 : T_pack_Reader) : Option Bool :=
  if ¬ (p0.made = true) then (some true) else (some (decide (p0.err ≠ 0)))

-- (*incipit/pack.Reader).fails (('obj', 118, ('ro', '.', '.')), '.')
def g114_1 (p0 : T_pack_Reader) (p1 : Int) : Option T_pack_Reader :=
  some (T_pack_Reader.mk p0.b p1 p0.made)

-- (*incipit/pack.Reader).next (('obj', 118, ('ro', '.', '.')), '.')
def g115_1 (p0 : T_pack_Reader) (p1 : Int) : Option ((List Int) × T_pack_Reader) :=
  (g113_1 p0).bind fun x112796 => (if x112796 = true then (some ([], p0)) else (if p1 > (p0.b.length : Int) then ((g114_1 p0 10).bind fun x112817 => (some ([], x112817))) else (if p1 ≤ p1 ∧ p1 ≤ (p0.b.length : Int) then ((cutI p0.b 0 p1).bind fun y112828 => ((cutI p0.b p1 (p0.b.length : Int)).bind fun y112839 => (some (y112828, (T_pack_Reader.mk y112839 p0.err p0.made))))) else none)))

-- (*incipit/pack.Reader).Text (('obj', 118, ('ro', '.', '.')), '.')
def g100_j1 (p0 : T_pack_Reader) (x112962 : Int) : Option ((List Int) × T_pack_Reader) :=
  if x112962 ≠ 0 then ((g114_1 p0 x112962).bind fun x112978 => (some ([], x112978))) else ((getI p0.b 0).bind fun x112989 => ((g115_1 p0 (IntKind.i64.wrap (1 + (IntKind.i64.wrap x112989)))).bind fun x112997 => ((cutI x112997.1 1 (x112997.1.length : Int)).bind fun y113012 => (some (y113012, x112997.2)))))
def g100 (p0 : T_pack_Reader) (p1 : Int) : Option ((List Int) × T_pack_Reader) :=
  (g113_1 p0).bind fun x112926 => (if x112926 = true then (some ([], p0)) else (if p1 < 0 then (g100_j1 p0 1) else (if (p0.b.length : Int) = 0 then (g100_j1 p0 10) else ((getI p0.b 0).bind fun x113026 => (if (IntKind.i64.wrap x113026) > p1 then (g100_j1 p0 3) else ((getI p0.b 0).bind fun x113041 => (if (IntKind.i64.wrap x113041) ≥ (p0.b.length : Int) then (g100_j1 p0 10) else (g100_j1 p0 0))))))))

-- (*incipit/pack.Reader).Err (('obj', 118, ('ro', '.', '.')),)
def g72 (p0 : T_pack_Reader) : Option Int :=
  if ¬ (p0.made = true) then (some 2) else (some p0.err)

-- incipit/node.leaf (('obj', 118, ('own', '.', '.')),)
def g70_j2 (x130651 : Int) (rec132465 : Int → (List Int) → Int → Bool → (List T_api_Pair) → Option (T_api_Node × T_pack_Reader)) (x133801 : (List Int)) (x133806 : (List Int)) (x133811 : (List T_api_Pair)) (x133819 : (List T_api_Pair)) (x133827 : (List Int)) (x133832 : Int) (x133833 : Bool) : Option (T_api_Node × T_pack_Reader) :=
  (g72 (T_pack_Reader.mk x133827 x133832 x133833)).bind fun x133836 => (if x133836 ≠ 0 then (some ((T_api_Node.mk true x133819 ([] : List (List Int)) ([] : List Int)), (T_pack_Reader.mk x133827 x133832 x133833))) else (rec132465 (IntKind.u8.wrap (x130651 + 1)) x133827 x133832 x133833 x133819))
def g70_l1B (x128970 : (Int × T_pack_Reader)) (rec132465 : Int → (List Int) → Int → Bool → (List T_api_Pair) → Option (T_api_Node × T_pack_Reader)) (x130651 : Int) (x130652 : (List Int)) (x130657 : Int) (x130658 : Bool) (x130659 : (List T_api_Pair)) : Option (T_api_Node × T_pack_Reader) :=
  if x130651 < x128970.1 then ((g100 (T_pack_Reader.mk x130652 x130657 x130658) 25).bind fun x133367 => ((g100 x133367.2 24).bind fun x134174 => ((appI x130659 ([(T_api_Pair.mk x133367.1 x134174.1)] : List T_api_Pair) 48).bind fun x134212 => (g70_j2 x130651 rec132465 x134174.1 x134174.1 ([(T_api_Pair.mk x133367.1 x134174.1)] : List T_api_Pair) x134212 x134174.2.b x134174.2.err x134174.2.made)))) else (some ((T_api_Node.mk true x130659 ([] : List (List Int)) ([] : List Int)), (T_pack_Reader.mk x130652 x130657 x130658)))
def g70_l1 (x128970 : (Int × T_pack_Reader)) : Nat → Int → (List Int) → Int → Bool → (List T_api_Pair) → Option (T_api_Node × T_pack_Reader)
  | 0, _, _, _, _, _ => none
  | n + 1, x130651, x130652, x130657, x130658, x130659 => g70_l1B x128970 (g70_l1 x128970 n) x130651 x130652 x130657 x130658 x130659
def g70 (p0 : T_pack_Reader) : Option (T_api_Node × T_pack_Reader) :=
  (g99 p0).bind fun x128970 => (g70_l1 x128970 FUEL 0 x128970.2.b x128970.2.err x128970.2.made ([] : List T_api_Pair))

-- (*incipit/pack.Reader).number (('obj', 118, ('ro', '.', '.')), '.')
def g112_1_l1B (x134534 : ((List Int) × T_pack_Reader)) (rec134573 : Int → Int → Option (Int × T_pack_Reader)) (x134561 : Int) (x134562 : Int) : Option (Int × T_pack_Reader) :=
  if x134562 < (x134534.1.length : Int) then ((getI x134534.1 x134562).bind fun x134578 => (rec134573 (orI .u64 (shlI .u64 x134561 8) (IntKind.u64.wrap x134578)) (IntKind.i64.wrap (x134562 + 1)))) else (some (x134561, x134534.2))
def g112_1_l1 (x134534 : ((List Int) × T_pack_Reader)) : Nat → Int → Int → Option (Int × T_pack_Reader)
  | 0, _, _ => none
  | n + 1, x134561, x134562 => g112_1_l1B x134534 (g112_1_l1 x134534 n) x134561 x134562
def g112_1 (p0 : T_pack_Reader) (p1 : Int) : Option (Int × T_pack_Reader) :=
  (g115_1 p0 p1).bind fun x134534 => (g112_1_l1 x134534 FUEL 0 0)

-- (*incipit/pack.Reader).U16 (('obj', 118, ('ro', '.', '.')),)
def g101 (p0 : T_pack_Reader) : Option (Int × T_pack_Reader) :=
  (g112_1 p0 2).bind fun x134608 => (some (IntKind.u16.wrap x134608.1, x134608.2))

-- incipit/node.inner (('obj', 118, ('own', '.', '.')),)
def g71_j1 (x157620 : (List Int)) (x157625 : Int) (x157626 : Bool) (x157627 : (List (List Int))) (x157635 : (List Int)) : Option (T_api_Node × T_pack_Reader) :=
  some ((T_api_Node.mk false ([] : List T_api_Pair) x157627 x157635), (T_pack_Reader.mk x157620 x157625 x157626))
def g71_j3 (x160100 : Int) (x160109 : (List Int)) (rec162702 : Int → (List (List Int)) → (List Int) → (List Int) → Int → Bool → Option (T_api_Node × T_pack_Reader)) (x164413 : (List Int)) (x164418 : (List (List Int))) (x164426 : (List (List Int))) (x164434 : (List Int)) (x164439 : Int) (x164440 : Bool) : Option (T_api_Node × T_pack_Reader) :=
  (g101 (T_pack_Reader.mk x164434 x164439 x164440)).bind fun x164755 => ((appI x160109 ([IntKind.i64.wrap x164755.1] : List Int) 8).bind fun x164785 => ((g72 x164755.2).bind fun x164795 => (if x164795 ≠ 0 then (g71_j1 x164755.2.b x164755.2.err x164755.2.made x164426 x164785) else (rec162702 (IntKind.u8.wrap (x160100 + 1)) x164426 x164785 x164755.2.b x164755.2.err x164755.2.made))))
def g71_l2B (x149953 : (Int × T_pack_Reader)) (rec162702 : Int → (List (List Int)) → (List Int) → (List Int) → Int → Bool → Option (T_api_Node × T_pack_Reader)) (x160100 : Int) (x160101 : (List (List Int))) (x160109 : (List Int)) (x160117 : (List Int)) (x160122 : Int) (x160123 : Bool) : Option (T_api_Node × T_pack_Reader) :=
  if x160100 < x149953.1 then ((g100 (T_pack_Reader.mk x160117 x160122 x160123) 25).bind fun x165187 => ((appI x160101 ([x165187.1] : List (List Int)) 24).bind fun x165225 => (g71_j3 x160100 x160109 rec162702 x165187.1 ([x165187.1] : List (List Int)) x165225 x165187.2.b x165187.2.err x165187.2.made))) else (g71_j1 x160117 x160122 x160123 x160101 x160109)
def g71_l2 (x149953 : (Int × T_pack_Reader)) : Nat → Int → (List (List Int)) → (List Int) → (List Int) → Int → Bool → Option (T_api_Node × T_pack_Reader)
  | 0, _, _, _, _, _, _ => none
  | n + 1, x160100, x160101, x160109, x160117, x160122, x160123 => g71_l2B x149953 (g71_l2 x149953 n) x160100 x160101 x160109 x160117 x160122 x160123
def g71 (p0 : T_pack_Reader) : Option (T_api_Node × T_pack_Reader) :=
  (g99 p0).bind fun x149953 => ((g101 x149953.2).bind fun x149964 => (g71_l2 x149953 FUEL 0 ([] : List (List Int)) ([IntKind.i64.wrap x149964.1] : List Int) x149964.2.b x149964.2.err x149964.2.made))

-- incipit/node.Get 
def g32_j1 (p1 : (List Int)) (x165709 : (List Int)) (x165714 : Int) (x165715 : Bool) (x165716 : Bool) (x165717 : (List T_api_Pair)) (x165725 : (List (List Int))) (x165733 : (List Int)) : Option (T_api_Node × Int) :=
  (g72 (T_pack_Reader.mk x165709 x165714 x165715)).bind fun x165756 => (if x165756 ≠ 0 then (some ((T_api_Node.mk false ([] : List T_api_Pair) ([] : List (List Int)) ([] : List Int)), 100)) else ((g30 (T_api_Node.mk x165716 x165717 x165725 x165733)).bind fun x165853 => (if x165853.2.2 ≠ 0 then (some ((T_api_Node.mk false ([] : List T_api_Pair) ([] : List (List Int)) ([] : List Int)), 100)) else ((g34 p1 x165853.2.1).bind fun x165897 => (if ¬ (x165897 = true) then (some ((T_api_Node.mk false ([] : List T_api_Pair) ([] : List (List Int)) ([] : List Int)), 100)) else (some ((T_api_Node.mk x165716 x165717 x165725 x165733), 0)))))))
def g32 (p0 : Int) (p1 : (List Int)) : Option (T_api_Node × Int) :=
  (g69 p1).bind fun x165618 => (if p0 = 3 then ((g70 x165618).bind fun x165918 => (g32_j1 p1 x165918.2.b x165918.2.err x165918.2.made x165918.1.Leaf x165918.1.Pairs x165918.1.Keys x165918.1.Kids)) else (if p0 = 4 then ((g71 x165618).bind fun x165953 => (g32_j1 p1 x165953.2.b x165953.2.err x165953.2.made x165953.1.Leaf x165953.1.Pairs x165953.1.Keys x165953.1.Kids)) else (some ((T_api_Node.mk false ([] : List T_api_Pair) ([] : List (List Int)) ([] : List Int)), 42))))

-- (*incipit/incipitref10.taker).one (('obj', 89, ('ro', '.')),)
def g73 (p0 : T_incipitref10_taker) : Option (Int × T_incipitref10_taker) :=
  if (IntKind.i64.wrap (p0.at_ + 1)) > (p0.b.length : Int) then (some (0, (T_incipitref10_taker.mk p0.b (IntKind.i64.wrap (p0.at_ + 1))))) else ((getI p0.b (IntKind.i64.wrap ((IntKind.i64.wrap (p0.at_ + 1)) - 1))).bind fun x166142 => (some (IntKind.i64.wrap x166142, (T_incipitref10_taker.mk p0.b (IntKind.i64.wrap (p0.at_ + 1))))))

-- (*incipit/incipitref10.taker).many (('obj', 89, ('ro', '.')), '.')
def g74_l1B (p1 : Int) (rec166890 : (List Int) → Int → (List Int) → Int → Option ((List Int) × T_incipitref10_taker)) (x166844 : (List Int)) (x166852 : Int) (x166853 : (List Int)) (x166858 : Int) : Option ((List Int) × T_incipitref10_taker) :=
  if x166852 < p1 then ((g73 (T_incipitref10_taker.mk x166853 x166858)).bind fun x166895 => ((appI x166844 ([IntKind.u8.wrap x166895.1] : List Int) 1).bind fun x166914 => (rec166890 x166914 (IntKind.i64.wrap (x166852 + 1)) x166895.2.b x166895.2.at_))) else (some (x166844, (T_incipitref10_taker.mk x166853 x166858)))
def g74_l1 (p1 : Int) : Nat → (List Int) → Int → (List Int) → Int → Option ((List Int) × T_incipitref10_taker)
  | 0, _, _, _, _ => none
  | n + 1, x166844, x166852, x166853, x166858 => g74_l1B p1 (g74_l1 p1 n) x166844 x166852 x166853 x166858
def g74 (p0 : T_incipitref10_taker) (p1 : Int) : Option ((List Int) × T_incipitref10_taker) :=
  g74_l1 p1 FUEL ([] : List Int) 0 p0.b p0.at_

-- incipit/incipitref10.Get 
def g33_j4 (x211010 : Int) (rec215545 : Int → (List Int) → Int → (List T_api_Pair) → (List (List Int)) → (List Int) → Option (T_api_Node × Int)) (x217778 : (List Int)) (x217783 : Int) (x217784 : (List Int)) (x217789 : (List Int)) (x217794 : Int) (x217795 : (List T_api_Pair)) (x217803 : (List (List Int))) (x217811 : (List Int)) : Option (T_api_Node × Int) :=
  rec215545 (IntKind.i64.wrap (x211010 + 1)) x217789 x217794 x217795 x217803 x217811
def g33_j5 (x211010 : Int) (x211025 : (List (List Int))) (x211033 : (List Int)) (rec215545 : Int → (List Int) → Int → (List T_api_Pair) → (List (List Int)) → (List Int) → Option (T_api_Node × Int)) (x217823 : (Int × T_incipitref10_taker)) (x219227 : (List Int)) (x219232 : (List Int)) (x219237 : (List Int)) (x219242 : Int) (x219243 : (List Int)) (x219248 : (List Int)) (x219253 : (List Int)) (x219258 : (List T_api_Pair)) (x219266 : (List T_api_Pair)) (x219274 : (List Int)) (x219279 : Int) : Option (T_api_Node × Int) :=
  g33_j4 x211010 rec215545 x219227 x217823.1 x219232 x219274 x219279 x219266 x211025 x211033
def g33_l3B (p0 : Int) (p1 : (List Int)) (x193514 : (Int × T_incipitref10_taker)) (rec215545 : Int → (List Int) → Int → (List T_api_Pair) → (List (List Int)) → (List Int) → Option (T_api_Node × Int)) (x211010 : Int) (x211011 : (List Int)) (x211016 : Int) (x211017 : (List T_api_Pair)) (x211025 : (List (List Int))) (x211033 : (List Int)) : Option (T_api_Node × Int) :=
  if x211010 < x193514.1 then ((g73 (T_incipitref10_taker.mk x211011 x211016)).bind fun x217823 => ((g74 x217823.2 x217823.1).bind fun x217834 => (if p0 = 3 then ((g73 x217834.2).bind fun x219526 => ((g74 x219526.2 x219526.1).bind fun x219548 => ((appI x211017 ([(T_api_Pair.mk x217834.1 x219548.1)] : List T_api_Pair) 48).bind fun x219582 => (g33_j5 x211010 x211025 x211033 rec215545 x217823 x217834.1 x217834.1 x217834.1 x219526.1 x219548.1 x217834.1 x219548.1 ([(T_api_Pair.mk x217834.1 x219548.1)] : List T_api_Pair) x219582 x219548.2.b x219548.2.at_)))) else ((appI x211025 ([x217834.1] : List (List Int)) 24).bind fun x219734 => ((g73 x217834.2).bind fun x219900 => ((g73 x219900.2).bind fun x219922 => ((some (IntKind.i64.wrap ((IntKind.i64.wrap (256 * x219900.1)) + x219922.1))).bind fun x219933 => ((appI x211033 ([x219933] : List Int) 8).bind fun x219943 => (g33_j4 x211010 rec215545 x217834.1 x217823.1 x217834.1 x219922.2.b x219922.2.at_ x211017 x219734 x219943))))))))) else ((g31 (T_api_Node.mk (decide (p0 = 3)) x211017 x211025 x211033)).bind fun x220062 => (if x220062.2.2 ≠ 0 then (some ((T_api_Node.mk false ([] : List T_api_Pair) ([] : List (List Int)) ([] : List Int)), 100)) else (if (strOfNums x220062.2.1).toList ≠ (strOfNums p1).toList then (some ((T_api_Node.mk false ([] : List T_api_Pair) ([] : List (List Int)) ([] : List Int)), 100)) else (some ((T_api_Node.mk (decide (p0 = 3)) x211017 x211025 x211033), 0)))))
def g33_l3 (p0 : Int) (p1 : (List Int)) (x193514 : (Int × T_incipitref10_taker)) : Nat → Int → (List Int) → Int → (List T_api_Pair) → (List (List Int)) → (List Int) → Option (T_api_Node × Int)
  | 0, _, _, _, _, _, _ => none
  | n + 1, x211010, x211011, x211016, x211017, x211025, x211033 => g33_l3B p0 p1 x193514 (g33_l3 p0 p1 x193514 n) x211010 x211011 x211016 x211017 x211025 x211033
def g33_j2 (p0 : Int) (p1 : (List Int)) (x193514 : (Int × T_incipitref10_taker)) (x193792 : (List Int)) (x193797 : Int) (x193798 : (List Int)) : Option (T_api_Node × Int) :=
  g33_l3 p0 p1 x193514 FUEL 0 x193792 x193797 ([] : List T_api_Pair) ([] : List (List Int)) x193798
def g33_j1 (p0 : Int) (p1 : (List Int)) : Option (T_api_Node × Int) :=
  (g73 (T_incipitref10_taker.mk p1 0)).bind fun x193514 => (if ¬ (p0 = 3) then ((g73 x193514.2).bind fun x220226 => ((g73 x220226.2).bind fun x220248 => ((some (IntKind.i64.wrap ((IntKind.i64.wrap (256 * x220226.1)) + x220248.1))).bind fun x220259 => ((appI ([] : List Int) ([x220259] : List Int) 8).bind fun x220270 => (g33_j2 p0 p1 x193514 x220248.2.b x220248.2.at_ x220270))))) else (g33_j2 p0 p1 x193514 x193514.2.b x193514.2.at_ ([] : List Int)))
def g33 (p0 : Int) (p1 : (List Int)) : Option (T_api_Node × Int) :=
  if p0 ≠ 3 then (if p0 ≠ 4 then (some ((T_api_Node.mk false ([] : List T_api_Pair) ([] : List (List Int)) ([] : List Int)), 42)) else (g33_j1 p0 p1)) else (g33_j1 p0 p1)

-- incipit/incipitref10.Same (('agg', ('.', 'ro', 'ro', 'ro')), ('agg', ('.', 'ro', 'ro', 'ro')))
def g20_l4B (p0 : T_api_Node) (p1 : T_api_Node) (rec227345 : Int → Option Bool) (x227290 : Int) : Option Bool :=
  if x227290 < (p0.Kids.length : Int) then ((getI p0.Kids x227290).bind fun x227381 => ((getI p1.Kids x227290).bind fun x227390 => (if x227381 ≠ x227390 then (some false) else (rec227345 (IntKind.i64.wrap (x227290 + 1)))))) else (some true)
def g20_l4 (p0 : T_api_Node) (p1 : T_api_Node) : Nat → Int → Option Bool
  | 0, _ => none
  | n + 1, x227290 => g20_l4B p0 p1 (g20_l4 p0 p1 n) x227290
def g20_l3B (p0 : T_api_Node) (p1 : T_api_Node) (rec226991 : Int → Option Bool) (x226912 : Int) : Option Bool :=
  if x226912 < (p0.Keys.length : Int) then ((getI p0.Keys x226912).bind fun x227039 => ((getI p1.Keys x226912).bind fun x227054 => (if (strOfNums x227039).toList ≠ (strOfNums x227054).toList then (some false) else (rec226991 (IntKind.i64.wrap (x226912 + 1)))))) else (g20_l4 p0 p1 FUEL 0)
def g20_l3 (p0 : T_api_Node) (p1 : T_api_Node) : Nat → Int → Option Bool
  | 0, _ => none
  | n + 1, x226912 => g20_l3B p0 p1 (g20_l3 p0 p1 n) x226912
def g20_l2B (p0 : T_api_Node) (p1 : T_api_Node) (rec226161 : Int → Option Bool) (x225726 : Int) : Option Bool :=
  if x225726 < (p0.Pairs.length : Int) then ((getI p0.Pairs x225726).bind fun x226494 => ((getI p1.Pairs x225726).bind fun x226519 => (if (strOfNums x226494.Key).toList ≠ (strOfNums x226519.Key).toList then (some false) else ((getI p0.Pairs x225726).bind fun x226545 => ((getI p1.Pairs x225726).bind fun x226570 => (if (strOfNums x226545.Val).toList ≠ (strOfNums x226570.Val).toList then (some false) else (rec226161 (IntKind.i64.wrap (x225726 + 1))))))))) else (g20_l3 p0 p1 FUEL 0)
def g20_l2 (p0 : T_api_Node) (p1 : T_api_Node) : Nat → Int → Option Bool
  | 0, _ => none
  | n + 1, x225726 => g20_l2B p0 p1 (g20_l2 p0 p1 n) x225726
def g20_j1 (p0 : T_api_Node) (p1 : T_api_Node) (x223984 : Bool) : Option Bool :=
  if x223984 = true then (some false) else (g20_l2 p0 p1 FUEL 0)
def g20 (p0 : T_api_Node) (p1 : T_api_Node) : Option Bool :=
  if p0.Leaf ≠ p1.Leaf then (g20_j1 p0 p1 true) else (if (p0.Pairs.length : Int) ≠ (p1.Pairs.length : Int) then (g20_j1 p0 p1 true) else (if (p0.Keys.length : Int) ≠ (p1.Keys.length : Int) then (g20_j1 p0 p1 true) else (g20_j1 p0 p1 (decide ((p0.Kids.length : Int) ≠ (p1.Kids.length : Int))))))

-- incipit/incipitlaw10.NodeBytes (('agg', ('.', 'ro', 'ro', 'ro')), '.', 'ro')
def g6_j2 (x227751 : Bool) : Option Bool :=
  some x227751
def g6_j1 (p0 : T_api_Node) (p1 : Int) (p2 : (List Int)) (x227595 : Bool) : Option Bool :=
  if x227595 = true then ((g11).bind fun x227599 => (some x227599)) else ((g30 p0).bind fun x227606 => ((g31 p0).bind fun x227624 => ((g32 p1 p2).bind fun x227642 => ((g33 p1 p2).bind fun x227687 => (if x227606.1 = x227624.1 then ((g34 x227606.2.1 x227624.2.1).bind fun x227757 => (if x227757 = true then (if x227606.2.2 = x227624.2.2 then ((g20 x227642.1 x227687.1).bind fun x227766 => (if x227766 = true then (g6_j2 (decide (x227642.2 = x227687.2))) else (g6_j2 false))) else (g6_j2 false)) else (g6_j2 false))) else (g6_j2 false))))))
def g6 (p0 : T_api_Node) (p1 : Int) (p2 : (List Int)) : Option Bool :=
  (g11).bind fun x227776 => (if ¬ (x227776 = true) then (g6_j1 p0 p1 p2 true) else ((g12 ([p0] : List T_api_Node)).bind fun x227793 => (if ¬ (x227793 = true) then (g6_j1 p0 p1 p2 true) else (g6_j1 p0 p1 p2 (decide ((p2.length : Int) > 3000))))))

end Go.Proofs.Ytefjbhogpgihaaa
