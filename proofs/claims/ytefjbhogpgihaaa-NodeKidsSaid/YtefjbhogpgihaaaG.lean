/- PRINTED BY sy.py: what each Go function computes, in plain Lean. -/
import Derived.Test.YtefjbhogpgihaaaSXz
namespace Go.Proofs.Ytefjbhogpgihaaa
open Go Go.SX Go.RowKit
set_option maxRecDepth 100000
set_option linter.unusedVariables false
structure T_api_Pair where
  Key : (List Int)
  Val : (List Int)
  deriving DecidableEq
structure T_api_Node where
  Leaf : Bool
  Pairs : (List T_api_Pair)
  Keys : (List (List Int))
  Kids : (List Int)
  deriving DecidableEq
-- incipit/node.isKey 
def g78 (p0 : (List Int)) : Option Bool :=
  if (p0.length : Int) > 0 then (some (decide ((p0.length : Int) ≤ 25))) else (some false)

-- bytes.Compare 
def g15 (p0 : (List Int)) (p1 : (List Int)) : Option Int :=
  some (cmpB p0 p1)

-- incipit/node.may$1 (('agg', ('ro', 'ro')),)
def g91 (p0 : T_api_Pair) : Option Bool :=
  some (decide ((p0.Val.length : Int) > 24))

-- incipit/node.isKid 
def g83 (p0 : Int) : Option Bool :=
  if p0 ≥ 2 then (some (decide (p0 < 2048))) else (some false)

-- incipit/node.may$2 
def g93 (p0 : Int) : Option Bool :=
  (g83 p0).bind fun x19927 => (some (decide (¬ (x19927 = true))))

-- incipit/node.may (('agg', ('.', 'ro', 'ro', 'ro')),)
def g50_j3 (x45603 : Bool) : Option Bool :=
  some x45603
def g50_j2 (p0 : T_api_Node) (x45595 : Int) : Option Bool :=
  if ¬ (x45595 ≥ 0) then (if (p0.Pairs.length : Int) ≤ 255 then ((some (IntKind.i64.wrap ((p0.Keys.length : Int) + (p0.Kids.length : Int)))).bind fun x45608 => (g50_j3 (decide (x45608 = 0)))) else (g50_j3 false)) else (g50_j3 false)
def g50_l4B (p0 : T_api_Node) (rec45955 : Int → Option Bool) (x45886 : Int) : Option Bool :=
  if x45886 < (p0.Pairs.length : Int) then ((getI p0.Pairs x45886).bind fun x45992 => ((g91 x45992).bind fun x46016 => (if x46016 = true then (g50_j2 p0 x45886) else (rec45955 (IntKind.i64.wrap (x45886 + 1)))))) else (g50_j2 p0 (-1))
def g50_l4 (p0 : T_api_Node) : Nat → Int → Option Bool
  | 0, _ => none
  | n + 1, x45886 => g50_l4B p0 (g50_l4 p0 n) x45886
def g50_j6 (x46725 : Bool) : Option Bool :=
  some x46725
def g50_j5 (p0 : T_api_Node) (x46709 : Int) : Option Bool :=
  if ¬ (x46709 ≥ 0) then (if (p0.Pairs.length : Int) = 0 then (if (p0.Keys.length : Int) > 0 then (if (p0.Keys.length : Int) ≤ 255 then (g50_j6 (decide ((p0.Kids.length : Int) = (IntKind.i64.wrap ((p0.Keys.length : Int) + 1))))) else (g50_j6 false)) else (g50_j6 false)) else (g50_j6 false)) else (g50_j6 false)
def g50_l7B (p0 : T_api_Node) (rec46919 : Int → Option Bool) (x46882 : Int) : Option Bool :=
  if x46882 < (p0.Kids.length : Int) then ((getI p0.Kids x46882).bind fun x46940 => ((g93 x46940).bind fun x46948 => (if x46948 = true then (g50_j5 p0 x46882) else (rec46919 (IntKind.i64.wrap (x46882 + 1)))))) else (g50_j5 p0 (-1))
def g50_l7 (p0 : T_api_Node) : Nat → Int → Option Bool
  | 0, _ => none
  | n + 1, x46882 => g50_l7B p0 (g50_l7 p0 n) x46882
def g50_j1 (p0 : T_api_Node) (x42644 : Bool) : Option Bool :=
  if ¬ (x42644 = true) then (some false) else (if p0.Leaf = true then (g50_l4 p0 FUEL 0) else (g50_l7 p0 FUEL 0))
def g50_l9B (p0 : T_api_Node) (rec52163 : Int → (List Int) → Bool → Option Bool) (x51943 : Int) (x51944 : (List Int)) (z51949 : Bool) : Option Bool :=
  if x51943 < (p0.Keys.length : Int) then ((getI p0.Keys x51943).bind fun x52272 => ((g78 x52272).bind fun x52343 => (if ¬ (x52343 = true) then (g50_j1 p0 false) else (if (!z51949) = true then ((g15 x51944 x52272).bind fun x52360 => (if x52360 ≥ 0 then (g50_j1 p0 false) else (if 0 < x52272.length then (rec52163 (IntKind.i64.wrap (x51943 + 1)) x52272 false) else none))) else (if 0 < x52272.length then (rec52163 (IntKind.i64.wrap (x51943 + 1)) x52272 false) else none))))) else (g50_j1 p0 true)
def g50_l9 (p0 : T_api_Node) : Nat → Int → (List Int) → Bool → Option Bool
  | 0, _, _, _ => none
  | n + 1, x51943, x51944, z51949 => g50_l9B p0 (g50_l9 p0 n) x51943 x51944 z51949
def g50_l8B (p0 : T_api_Node) (rec51251 : Int → (List Int) → Bool → Option Bool) (x51001 : Int) (x51002 : (List Int)) (z51007 : Bool) : Option Bool :=
  if x51001 < (p0.Pairs.length : Int) then ((getI p0.Pairs x51001).bind fun x51375 => ((g78 x51375.Key).bind fun x51461 => (if ¬ (x51461 = true) then (g50_j1 p0 false) else (if (!z51007) = true then ((g15 x51002 x51375.Key).bind fun x51478 => (if x51478 ≥ 0 then (g50_j1 p0 false) else (if 0 < x51375.Key.length then (rec51251 (IntKind.i64.wrap (x51001 + 1)) x51375.Key false) else none))) else (if 0 < x51375.Key.length then (rec51251 (IntKind.i64.wrap (x51001 + 1)) x51375.Key false) else none))))) else (g50_l9 p0 FUEL 0 x51002 z51007)
def g50_l8 (p0 : T_api_Node) : Nat → Int → (List Int) → Bool → Option Bool
  | 0, _, _, _ => none
  | n + 1, x51001, x51002, z51007 => g50_l8B p0 (g50_l8 p0 n) x51001 x51002 z51007
def g50 (p0 : T_api_Node) : Option Bool :=
  g50_l8 p0 FUEL 0 [] true

-- incipit/node.many (('agg', ('.', 'ro', 'ro', 'ro')),)
def g66 (p0 : T_api_Node) : Option Int :=
  (some (IntKind.i64.wrap ((p0.Pairs.length : Int) + (p0.Keys.length : Int)))).bind fun x52454 => (some x52454)

-- incipit/node.width (('agg', ('.', 'ro', 'ro', 'ro')), '.')
def g94 (p0 : T_api_Node) (p1 : Int) : Option Int :=
  if p0.Leaf = true then ((getI p0.Pairs p1).bind fun x52690 => ((getI p0.Pairs p1).bind fun x52715 => ((some (IntKind.i64.wrap ((IntKind.i64.wrap (2 + (x52690.Key.length : Int))) + (x52715.Val.length : Int)))).bind fun x52740 => (some x52740)))) else ((getI p0.Keys p1).bind fun x52742 => (some (IntKind.i64.wrap (3 + (x52742.length : Int)))))

-- incipit/node.size (('agg', ('.', 'ro', 'ro', 'ro')),)
def g52_l2B (p0 : T_api_Node) (x52902 : Int) (rec52933 : Int → Int → Option Int) (x52920 : Int) (x52921 : Int) : Option Int :=
  if x52921 < x52902 then ((g94 p0 x52921).bind fun x52938 => (rec52933 (IntKind.i64.wrap (x52920 + x52938)) (IntKind.i64.wrap (x52921 + 1)))) else (some x52920)
def g52_l2 (p0 : T_api_Node) (x52902 : Int) : Nat → Int → Int → Option Int
  | 0, _, _ => none
  | n + 1, x52920, x52921 => g52_l2B p0 x52902 (g52_l2 p0 x52902 n) x52920 x52921
def g52_j1 (p0 : T_api_Node) (x52856 : Int) : Option Int :=
  (g66 p0).bind fun x52902 => (g52_l2 p0 x52902 FUEL x52856 0)
def g52 (p0 : T_api_Node) : Option Int :=
  if ¬ (p0.Leaf = true) then (g52_j1 p0 3) else (g52_j1 p0 1)

-- incipit/node.Check (('agg', ('.', 'ro', 'ro', 'ro')),)
def g26 (p0 : T_api_Node) : Option Int :=
  (g50 p0).bind fun x53005 => (if ¬ (x53005 = true) then (some 100) else ((g52 p0).bind fun x53013 => (if x53013 > 240 then (some 3) else (some 0))))

-- incipit/pack.Text 
def g96 (p0 : (List Int)) (p1 : (List Int)) : Option ((List Int) × Int) :=
  if (p1.length : Int) > 255 then (some (([] : List Int), 3)) else ((some (IntKind.i64.wrap ((p0.length : Int) + (IntKind.i64.wrap (1 + (p1.length : Int)))))).bind fun x53431 => ((repI x53431 0 1).bind fun x53433 => ((some (copyI x53433 0 (x53433.length : Int) p0)).bind fun x53450 => (if (0 : Int) ≤ (p0.length : Int) ∧ (p0.length : Int) ≤ (x53450.length : Int) ∧ (x53450.length : Int) ≤ (x53450.length : Int) then (if (0 : Int) ≤ 0 ∧ 0 < (x53450.length : Int) - (p0.length : Int) then ((getI x53450 ((p0.length : Int) + 0)).bind fun x53467 => ((setI x53450 ((p0.length : Int) + 0) (IntKind.u8.wrap (p1.length : Int))).bind fun y53472 => (if (0 : Int) ≤ 1 ∧ 1 ≤ (x53450.length : Int) - (p0.length : Int) ∧ (x53450.length : Int) - (p0.length : Int) ≤ (x53450.length : Int) - (p0.length : Int) then ((some (copyI y53472 ((p0.length : Int) + 1) ((p0.length : Int) + ((x53450.length : Int) - (p0.length : Int))) p1)).bind fun x53498 => (some (x53498, 0))) else none))) else none) else none))))

-- incipit/node.text 
def g67 (p0 : (List Int)) (p1 : (List Int)) : Option (List Int) :=
  (g96 p0 p1).bind fun x53529 => (some x53529.1)

-- incipit/pack.wide 
def g97_l1B (p0 : (List Int)) (p1 : Int) (p2 : Int) (x54287 : (List Int)) (rec54411 : Int → (List Int) → Option (List Int)) (x54386 : Int) (x54387 : (List Int)) : Option (List Int) :=
  if x54386 < p2 then (if 0 ≤ (IntKind.u64.wrap (IntKind.i64.wrap (8 * x54386))) then ((some (shrI .u64 p1 (IntKind.u64.wrap (IntKind.i64.wrap (8 * x54386))))).bind fun x54417 => (if (0 : Int) ≤ IntKind.i64.wrap ((IntKind.i64.wrap (p2 - 1)) - x54386) ∧ IntKind.i64.wrap ((IntKind.i64.wrap (p2 - 1)) - x54386) < (x54287.length : Int) - (p0.length : Int) then ((getI x54387 ((p0.length : Int) + (IntKind.i64.wrap ((IntKind.i64.wrap (p2 - 1)) - x54386)))).bind fun x54419 => ((setI x54387 ((p0.length : Int) + (IntKind.i64.wrap ((IntKind.i64.wrap (p2 - 1)) - x54386))) (IntKind.u8.wrap x54417)).bind fun y54424 => (rec54411 (IntKind.i64.wrap (x54386 + 1)) y54424))) else none)) else none) else (some x54387)
def g97_l1 (p0 : (List Int)) (p1 : Int) (p2 : Int) (x54287 : (List Int)) : Nat → Int → (List Int) → Option (List Int)
  | 0, _, _ => none
  | n + 1, x54386, x54387 => g97_l1B p0 p1 p2 x54287 (g97_l1 p0 p1 p2 x54287 n) x54386 x54387
def g97 (p0 : (List Int)) (p1 : Int) (p2 : Int) : Option (List Int) :=
  (repI (IntKind.i64.wrap ((p0.length : Int) + p2)) 0 1).bind fun x54270 => ((some (copyI x54270 0 (x54270.length : Int) p0)).bind fun x54287 => (if (0 : Int) ≤ (p0.length : Int) ∧ (p0.length : Int) ≤ (x54287.length : Int) ∧ (x54287.length : Int) ≤ (x54287.length : Int) then (g97_l1 p0 p1 p2 x54287 FUEL 0 x54287) else none))

-- incipit/pack.U16 
def g68 (p0 : (List Int)) (p1 : Int) : Option (List Int) :=
  (g97 p0 (IntKind.u64.wrap p1) 2).bind fun x54459 => (some x54459)

-- incipit/node.Put (('agg', ('.', 'ro', 'ro', 'ro')),)
def g30_l3B (p0 : T_api_Node) (x55607 : Int) (rec56001 : (List Int) → Int → Option (Int × (List Int) × Int)) (x55918 : (List Int)) (x55926 : Int) : Option (Int × (List Int) × Int) :=
  if x55926 < (p0.Keys.length : Int) then ((getI p0.Keys x55926).bind fun x56006 => ((getI p0.Kids (IntKind.i64.wrap (x55926 + 1))).bind fun x56025 => ((g67 x55918 x56006).bind fun x56038 => ((g68 x56038 (IntKind.u16.wrap x56025)).bind fun x56059 => (rec56001 x56059 (IntKind.i64.wrap (x55926 + 1))))))) else ((appZI x55918 (IntKind.i64.wrap (240 - (x55918.length : Int))) 0 1).bind fun x56076 => (some (x55607, x56076, 0)))
def g30_l3 (p0 : T_api_Node) (x55607 : Int) : Nat → (List Int) → Int → Option (Int × (List Int) × Int)
  | 0, _, _ => none
  | n + 1, x55918, x55926 => g30_l3B p0 x55607 (g30_l3 p0 x55607 n) x55918 x55926
def g30_j2 (p0 : T_api_Node) (x55599 : (List Int)) (x55607 : Int) : Option (Int × (List Int) × Int) :=
  g30_l3 p0 x55607 FUEL x55599 0
def g30_l1B (p0 : T_api_Node) (rec55487 : (List Int) → Int → Option (Int × (List Int) × Int)) (x55398 : (List Int)) (x55406 : Int) : Option (Int × (List Int) × Int) :=
  if x55406 < (p0.Pairs.length : Int) then ((getI p0.Pairs x55406).bind fun x55492 => ((g67 x55398 x55492.Key).bind fun x55530 => ((g67 x55530 x55492.Val).bind fun x55551 => (rec55487 x55551 (IntKind.i64.wrap (x55406 + 1)))))) else (if ¬ (p0.Leaf = true) then ((getI p0.Kids 0).bind fun x56089 => ((g68 x55398 (IntKind.u16.wrap x56089)).bind fun x56101 => (g30_j2 p0 x56101 4))) else (g30_j2 p0 x55398 3))
def g30_l1 (p0 : T_api_Node) : Nat → (List Int) → Int → Option (Int × (List Int) × Int)
  | 0, _, _ => none
  | n + 1, x55398, x55406 => g30_l1B p0 (g30_l1 p0 n) x55398 x55406
def g30 (p0 : T_api_Node) : Option (Int × (List Int) × Int) :=
  (g26 p0).bind fun x55047 => (if x55047 ≠ 0 then (some (0, ([] : List Int), x55047)) else ((g66 p0).bind fun x55056 => (g30_l1 p0 FUEL ([IntKind.u8.wrap x55056] : List Int) 0)))

-- bytes.Equal 
def g34 (p0 : (List Int)) (p1 : (List Int)) : Option Bool :=
  some (decide ((strOfNums p0).toList = (strOfNums p1).toList))

-- incipit/node.ahead (('agg', ('.', 'ro', 'ro', 'ro')), 'ro', '.')
def g51_j1 (x60487 : Int) : Option Int :=
  some x60487
def g51_l3B (p0 : T_api_Node) (p1 : (List Int)) (p2 : Bool) (rec61730 : Int → Int → Option Int) (x61600 : Int) (x61601 : Int) : Option Int :=
  if x61600 < (p0.Keys.length : Int) then ((getI p0.Keys x61600).bind fun x61797 => ((g15 x61797 p1).bind fun x61832 => (if x61832 < 0 then (if x61832 < 0 then (rec61730 (IntKind.i64.wrap (x61600 + 1)) (IntKind.i64.wrap (x61601 + 1))) else (g51_j1 x61601)) else (if x61832 = 0 then (if p2 = true then (rec61730 (IntKind.i64.wrap (x61600 + 1)) (IntKind.i64.wrap (x61601 + 1))) else (g51_j1 x61601)) else (g51_j1 x61601))))) else (g51_j1 x61601)
def g51_l3 (p0 : T_api_Node) (p1 : (List Int)) (p2 : Bool) : Nat → Int → Int → Option Int
  | 0, _, _ => none
  | n + 1, x61600, x61601 => g51_l3B p0 p1 p2 (g51_l3 p0 p1 p2 n) x61600 x61601
def g51_l2B (p0 : T_api_Node) (p1 : (List Int)) (p2 : Bool) (rec61307 : Int → Int → Option Int) (x61147 : Int) (x61148 : Int) : Option Int :=
  if x61147 < (p0.Pairs.length : Int) then ((getI p0.Pairs x61147).bind fun x61389 => ((g15 x61389.Key p1).bind fun x61439 => (if x61439 < 0 then (if x61439 < 0 then (rec61307 (IntKind.i64.wrap (x61147 + 1)) (IntKind.i64.wrap (x61148 + 1))) else (g51_j1 x61148)) else (if x61439 = 0 then (if p2 = true then (rec61307 (IntKind.i64.wrap (x61147 + 1)) (IntKind.i64.wrap (x61148 + 1))) else (g51_j1 x61148)) else (g51_j1 x61148))))) else (g51_l3 p0 p1 p2 FUEL 0 x61148)
def g51_l2 (p0 : T_api_Node) (p1 : (List Int)) (p2 : Bool) : Nat → Int → Int → Option Int
  | 0, _, _ => none
  | n + 1, x61147, x61148 => g51_l2B p0 p1 p2 (g51_l2 p0 p1 p2 n) x61147 x61148
def g51 (p0 : T_api_Node) (p1 : (List Int)) (p2 : Bool) : Option Int :=
  g51_l2 p0 p1 p2 FUEL 0 0

-- incipit/node.Kid (('agg', ('.', 'ro', 'ro', 'ro')), 'ro')
def g13 (p0 : T_api_Node) (p1 : (List Int)) : Option Int :=
  (g50 p0).bind fun x61922 => (if ¬ (x61922 = true) then (some 0) else (if p0.Leaf = true then (some 0) else ((g51 p0 p1 true).bind fun x61931 => (some x61931))))

-- incipit/incipitlaw10.live 
def g11_j1 (x62253 : Bool) : Option Bool :=
  some x62253
def g11  : Option Bool :=
  (g30 (T_api_Node.mk true ([(T_api_Pair.mk ([97] : List Int) ([7] : List Int)), (T_api_Pair.mk ([98] : List Int) [])] : List T_api_Pair) [] [])).bind fun x62118 => (if x62118.2.2 = 0 then (if x62118.1 = 3 then (if (x62118.2.1.length : Int) = 240 then ((cutI x62118.2.1 0 9).bind fun y62261 => ((g34 y62261 ([2, 1, 97, 1, 7, 1, 98, 0, 0] : List Int)).bind fun x62280 => (if x62280 = true then ((g13 (T_api_Node.mk false [] ([([98] : List Int)] : List (List Int)) ([5, 6] : List Int)) ([98] : List Int)).bind fun x62308 => (if x62308 = 1 then ((g13 (T_api_Node.mk false [] ([([98] : List Int)] : List (List Int)) ([5, 6] : List Int)) ([97, 122, 122] : List Int)).bind fun x62337 => (g11_j1 (decide (x62337 = 0)))) else (g11_j1 false))) else (g11_j1 false)))) else (g11_j1 false)) else (g11_j1 false)) else (g11_j1 false))

-- incipit/incipitlaw10.few 
def g12_l4B (x74060 : Int) (rec75229 : Int → Option Bool) (x75816 : T_api_Node) (rec76355 : Int → Option Bool) (x76322 : Int) : Option Bool :=
  if x76322 < (x75816.Keys.length : Int) then ((getI x75816.Keys x76322).bind fun x76375 => (if (x76375.length : Int) > 300 then (some false) else (rec76355 (IntKind.i64.wrap (x76322 + 1))))) else (rec75229 (IntKind.i64.wrap (x74060 + 1)))
def g12_l4 (x74060 : Int) (rec75229 : Int → Option Bool) (x75816 : T_api_Node) : Nat → Int → Option Bool
  | 0, _ => none
  | n + 1, x76322 => g12_l4B x74060 rec75229 x75816 (g12_l4 x74060 rec75229 x75816 n) x76322
def g12_l3B (x74060 : Int) (rec75229 : Int → Option Bool) (x75816 : T_api_Node) (rec76219 : Int → Option Bool) (x76150 : Int) : Option Bool :=
  if x76150 < (x75816.Pairs.length : Int) then ((getI x75816.Pairs x76150).bind fun x76256 => (if (x76256.Key.length : Int) > 300 then (some false) else (if (x76256.Val.length : Int) > 300 then (some false) else (rec76219 (IntKind.i64.wrap (x76150 + 1)))))) else (g12_l4 x74060 rec75229 x75816 FUEL 0)
def g12_l3 (x74060 : Int) (rec75229 : Int → Option Bool) (x75816 : T_api_Node) : Nat → Int → Option Bool
  | 0, _ => none
  | n + 1, x76150 => g12_l3B x74060 rec75229 x75816 (g12_l3 x74060 rec75229 x75816 n) x76150
def g12_j2 (x74060 : Int) (rec75229 : Int → Option Bool) (x75816 : T_api_Node) (x75867 : Bool) (x75868 : Bool) (x75869 : Bool) (x75870 : Bool) : Option Bool :=
  if x75870 = true then (some false) else (g12_l3 x74060 rec75229 x75816 FUEL 0)
def g12_l1B (p0 : (List T_api_Node)) (rec75229 : Int → Option Bool) (x74060 : Int) : Option Bool :=
  if x74060 < (p0.length : Int) then ((getI p0 x74060).bind fun x75816 => (if (x75816.Pairs.length : Int) > 300 then (g12_j2 x74060 rec75229 x75816 true true true true) else (if (x75816.Keys.length : Int) > 300 then (g12_j2 x74060 rec75229 x75816 false (decide ((x75816.Keys.length : Int) > 300)) true true) else (g12_j2 x74060 rec75229 x75816 false (decide ((x75816.Keys.length : Int) > 300)) false (decide ((x75816.Kids.length : Int) > 300)))))) else (some true)
def g12_l1 (p0 : (List T_api_Node)) : Nat → Int → Option Bool
  | 0, _ => none
  | n + 1, x74060 => g12_l1B p0 (g12_l1 p0 n) x74060
def g12 (p0 : (List T_api_Node)) : Option Bool :=
  g12_l1 p0 FUEL 0

-- incipit/node.Size (('agg', ('.', 'ro', 'ro', 'ro')),)
def g14 (p0 : T_api_Node) : Option Int :=
  (g50 p0).bind fun x76571 => (if ¬ (x76571 = true) then (some 0) else ((g52 p0).bind fun x76579 => (some x76579)))

-- incipit/incipitlaw10.NodeKids (('agg', ('.', 'ro', 'ro', 'ro')), 'ro')
def g3_j4 (x77050 : Bool) : Option Bool :=
  some x77050
def g3_j3 (p0 : T_api_Node) (p1 : (List Int)) (x76938 : Int) (x76980 : Bool) : Option Bool :=
  if x76980 = true then (some false) else (if x76938 = 0 then (if x76938 = (p0.Keys.length : Int) then (g3_j4 true) else ((getI p0.Keys x76938).bind fun x77057 => ((g15 x77057 p1).bind fun x77071 => (g3_j4 (decide (x77071 > 0)))))) else ((getI p0.Keys (IntKind.i64.wrap (x76938 - 1))).bind fun x77078 => ((g15 x77078 p1).bind fun x77092 => (if x77092 ≤ 0 then (if x76938 = (p0.Keys.length : Int) then (g3_j4 true) else ((getI p0.Keys x76938).bind fun x77101 => ((g15 x77101 p1).bind fun x77115 => (g3_j4 (decide (x77115 > 0)))))) else (g3_j4 false)))))
def g3_j2 (p0 : T_api_Node) (p1 : (List Int)) (x76938 : Int) (x76971 : Bool) : Option Bool :=
  if x76971 = true then (some (decide (x76938 = 0))) else (if x76938 < 0 then (g3_j3 p0 p1 x76938 true) else (g3_j3 p0 p1 x76938 (decide (x76938 ≥ (p0.Kids.length : Int)))))
def g3_j1 (p0 : T_api_Node) (p1 : (List Int)) (x76927 : Bool) : Option Bool :=
  if x76927 = true then ((g11).bind fun x76931 => (some x76931)) else ((g13 p0 p1).bind fun x76938 => (if p0.Leaf = true then (g3_j2 p0 p1 x76938 true) else ((g14 p0).bind fun x77128 => (g3_j2 p0 p1 x76938 (decide (x77128 = 0))))))
def g3 (p0 : T_api_Node) (p1 : (List Int)) : Option Bool :=
  (g11).bind fun x77137 => (if ¬ (x77137 = true) then (g3_j1 p0 p1 true) else ((g12 ([p0] : List T_api_Node)).bind fun x77154 => (if ¬ (x77154 = true) then (g3_j1 p0 p1 true) else (g3_j1 p0 p1 (decide ((p1.length : Int) > 300))))))

end Go.Proofs.Ytefjbhogpgihaaa
