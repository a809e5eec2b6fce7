/- PRINTED BY sy.py: what each Go function computes, in plain Lean. -/
import Derived.Test.YtefjbhogpgihaaaDoorSXz
namespace Go.Proofs.YtefjbhogpgihaaaDoor
open Go Go.SX Go.RowKit
set_option maxRecDepth 100000
set_option linter.unusedVariables false
def TAB2 : List Int := [128, 191, 160, 191, 128, 159, 144, 191, 128, 143, 0, 0, 0, 0, 0, 0, 0, 0, 0, 0, 0, 0, 0, 0, 0, 0, 0, 0, 0, 0, 0, 0]
structure T_api_Pair where
  Key : (List Int)
  Val : (List Int)
  deriving DecidableEq
structure T_api_Node where
  Leaf : Bool
  Pairs : (List T_api_Pair)
  Keys : (List (List Int))
  Kids : (List Int)
  deriving DecidableEq
structure T_pack_Reader where
  b : (List Int)
  err : Int
  made : Bool
  deriving DecidableEq
-- incipit/node.isKey 
def g56 (p0 : (List Int)) : Option Bool :=
  if (p0.length : Int) > 0 then (some (decide ((p0.length : Int) ≤ 25))) else (some false)

-- bytes.Compare 
def g49 (p0 : (List Int)) (p1 : (List Int)) : Option Int :=
  some (cmpB p0 p1)

-- incipit/node.may$1 (('agg', ('ro', 'ro')),)
def g44 (p0 : T_api_Pair) : Option Bool :=
  some (decide ((p0.Val.length : Int) > 24))

-- incipit/node.isKid 
def g47 (p0 : Int) : Option Bool :=
  if p0 ≥ 2 then (some (decide (p0 < 2048))) else (some false)

-- incipit/node.may$2 
def g46 (p0 : Int) : Option Bool :=
  (g47 p0).bind fun x19927 => (some (decide (¬ (x19927 = true))))

-- incipit/node.may (('agg', ('.', 'ro', 'ro', 'ro')),)
def g29_j3 (x45603 : Bool) : Option Bool :=
  some x45603
def g29_j2 (p0 : T_api_Node) (x45595 : Int) : Option Bool :=
  if ¬ (x45595 ≥ 0) then (if (p0.Pairs.length : Int) ≤ 255 then ((some (IntKind.i64.wrap ((p0.Keys.length : Int) + (p0.Kids.length : Int)))).bind fun x45608 => (g29_j3 (decide (x45608 = 0)))) else (g29_j3 false)) else (g29_j3 false)
def g29_l4B (p0 : T_api_Node) (rec45955 : Int → Option Bool) (x45886 : Int) : Option Bool :=
  if x45886 < (p0.Pairs.length : Int) then ((getI p0.Pairs x45886).bind fun x45992 => ((g44 x45992).bind fun x46016 => (if x46016 = true then (g29_j2 p0 x45886) else (rec45955 (IntKind.i64.wrap (x45886 + 1)))))) else (g29_j2 p0 (-1))
def g29_l4 (p0 : T_api_Node) : Nat → Int → Option Bool
  | 0, _ => none
  | n + 1, x45886 => g29_l4B p0 (g29_l4 p0 n) x45886
def g29_j6 (x46725 : Bool) : Option Bool :=
  some x46725
def g29_j5 (p0 : T_api_Node) (x46709 : Int) : Option Bool :=
  if ¬ (x46709 ≥ 0) then (if (p0.Pairs.length : Int) = 0 then (if (p0.Keys.length : Int) > 0 then (if (p0.Keys.length : Int) ≤ 255 then (g29_j6 (decide ((p0.Kids.length : Int) = (IntKind.i64.wrap ((p0.Keys.length : Int) + 1))))) else (g29_j6 false)) else (g29_j6 false)) else (g29_j6 false)) else (g29_j6 false)
def g29_l7B (p0 : T_api_Node) (rec46919 : Int → Option Bool) (x46882 : Int) : Option Bool :=
  if x46882 < (p0.Kids.length : Int) then ((getI p0.Kids x46882).bind fun x46940 => ((g46 x46940).bind fun x46948 => (if x46948 = true then (g29_j5 p0 x46882) else (rec46919 (IntKind.i64.wrap (x46882 + 1)))))) else (g29_j5 p0 (-1))
def g29_l7 (p0 : T_api_Node) : Nat → Int → Option Bool
  | 0, _ => none
  | n + 1, x46882 => g29_l7B p0 (g29_l7 p0 n) x46882
def g29_j1 (p0 : T_api_Node) (x42644 : Bool) : Option Bool :=
  if ¬ (x42644 = true) then (some false) else (if p0.Leaf = true then (g29_l4 p0 FUEL 0) else (g29_l7 p0 FUEL 0))
def g29_l9B (p0 : T_api_Node) (rec52163 : Int → (List Int) → Bool → Option Bool) (x51943 : Int) (x51944 : (List Int)) (z51949 : Bool) : Option Bool :=
  if x51943 < (p0.Keys.length : Int) then ((getI p0.Keys x51943).bind fun x52272 => ((g56 x52272).bind fun x52343 => (if ¬ (x52343 = true) then (g29_j1 p0 false) else (if (!z51949) = true then ((g49 x51944 x52272).bind fun x52360 => (if x52360 ≥ 0 then (g29_j1 p0 false) else (if 0 < x52272.length then (rec52163 (IntKind.i64.wrap (x51943 + 1)) x52272 false) else none))) else (if 0 < x52272.length then (rec52163 (IntKind.i64.wrap (x51943 + 1)) x52272 false) else none))))) else (g29_j1 p0 true)
def g29_l9 (p0 : T_api_Node) : Nat → Int → (List Int) → Bool → Option Bool
  | 0, _, _, _ => none
  | n + 1, x51943, x51944, z51949 => g29_l9B p0 (g29_l9 p0 n) x51943 x51944 z51949
def g29_l8B (p0 : T_api_Node) (rec51251 : Int → (List Int) → Bool → Option Bool) (x51001 : Int) (x51002 : (List Int)) (z51007 : Bool) : Option Bool :=
  if x51001 < (p0.Pairs.length : Int) then ((getI p0.Pairs x51001).bind fun x51375 => ((g56 x51375.Key).bind fun x51461 => (if ¬ (x51461 = true) then (g29_j1 p0 false) else (if (!z51007) = true then ((g49 x51002 x51375.Key).bind fun x51478 => (if x51478 ≥ 0 then (g29_j1 p0 false) else (if 0 < x51375.Key.length then (rec51251 (IntKind.i64.wrap (x51001 + 1)) x51375.Key false) else none))) else (if 0 < x51375.Key.length then (rec51251 (IntKind.i64.wrap (x51001 + 1)) x51375.Key false) else none))))) else (g29_l9 p0 FUEL 0 x51002 z51007)
def g29_l8 (p0 : T_api_Node) : Nat → Int → (List Int) → Bool → Option Bool
  | 0, _, _, _ => none
  | n + 1, x51001, x51002, z51007 => g29_l8B p0 (g29_l8 p0 n) x51001 x51002 z51007
def g29 (p0 : T_api_Node) : Option Bool :=
  g29_l8 p0 FUEL 0 [] true

-- incipit/node.many (('agg', ('.', 'ro', 'ro', 'ro')),)
def g14 (p0 : T_api_Node) : Option Int :=
  (some (IntKind.i64.wrap ((p0.Pairs.length : Int) + (p0.Keys.length : Int)))).bind fun x52454 => (some x52454)

-- incipit/node.width (('agg', ('.', 'ro', 'ro', 'ro')), '.')
def g48 (p0 : T_api_Node) (p1 : Int) : Option Int :=
  if p0.Leaf = true then ((getI p0.Pairs p1).bind fun x52690 => ((getI p0.Pairs p1).bind fun x52715 => ((some (IntKind.i64.wrap ((IntKind.i64.wrap (2 + (x52690.Key.length : Int))) + (x52715.Val.length : Int)))).bind fun x52740 => (some x52740)))) else ((getI p0.Keys p1).bind fun x52742 => (some (IntKind.i64.wrap (3 + (x52742.length : Int)))))

-- incipit/node.size (('agg', ('.', 'ro', 'ro', 'ro')),)
def g30_l2B (p0 : T_api_Node) (x52902 : Int) (rec52933 : Int → Int → Option Int) (x52920 : Int) (x52921 : Int) : Option Int :=
  if x52921 < x52902 then ((g48 p0 x52921).bind fun x52938 => (rec52933 (IntKind.i64.wrap (x52920 + x52938)) (IntKind.i64.wrap (x52921 + 1)))) else (some x52920)
def g30_l2 (p0 : T_api_Node) (x52902 : Int) : Nat → Int → Int → Option Int
  | 0, _, _ => none
  | n + 1, x52920, x52921 => g30_l2B p0 x52902 (g30_l2 p0 x52902 n) x52920 x52921
def g30_j1 (p0 : T_api_Node) (x52856 : Int) : Option Int :=
  (g14 p0).bind fun x52902 => (g30_l2 p0 x52902 FUEL x52856 0)
def g30 (p0 : T_api_Node) : Option Int :=
  if ¬ (p0.Leaf = true) then (g30_j1 p0 3) else (g30_j1 p0 1)

-- incipit/node.Check (('agg', ('.', 'ro', 'ro', 'ro')),)
def g13 (p0 : T_api_Node) : Option Int :=
  (g29 p0).bind fun x53005 => (if ¬ (x53005 = true) then (some 100) else ((g30 p0).bind fun x53013 => (if x53013 > 240 then (some 3) else (some 0))))

-- incipit/pack.Text 
def g32 (p0 : (List Int)) (p1 : (List Int)) : Option ((List Int) × Int) :=
  if (p1.length : Int) > 255 then (some (([] : List Int), 3)) else ((some (IntKind.i64.wrap ((p0.length : Int) + (IntKind.i64.wrap (1 + (p1.length : Int)))))).bind fun x53431 => ((repI x53431 0 1).bind fun x53433 => ((some (copyI x53433 0 (x53433.length : Int) p0)).bind fun x53450 => (if (0 : Int) ≤ (p0.length : Int) ∧ (p0.length : Int) ≤ (x53450.length : Int) ∧ (x53450.length : Int) ≤ (x53450.length : Int) then (if (0 : Int) ≤ 0 ∧ 0 < (x53450.length : Int) - (p0.length : Int) then ((getI x53450 ((p0.length : Int) + 0)).bind fun x53467 => ((setI x53450 ((p0.length : Int) + 0) (IntKind.u8.wrap (p1.length : Int))).bind fun y53472 => (if (0 : Int) ≤ 1 ∧ 1 ≤ (x53450.length : Int) - (p0.length : Int) ∧ (x53450.length : Int) - (p0.length : Int) ≤ (x53450.length : Int) - (p0.length : Int) then ((some (copyI y53472 ((p0.length : Int) + 1) ((p0.length : Int) + ((x53450.length : Int) - (p0.length : Int))) p1)).bind fun x53498 => (some (x53498, 0))) else none))) else none) else none))))

-- incipit/node.text 
def g15 (p0 : (List Int)) (p1 : (List Int)) : Option (List Int) :=
  (g32 p0 p1).bind fun x53529 => (some x53529.1)

-- incipit/pack.wide 
def g33_l1B (p0 : (List Int)) (p1 : Int) (p2 : Int) (x54287 : (List Int)) (rec54411 : Int → (List Int) → Option (List Int)) (x54386 : Int) (x54387 : (List Int)) : Option (List Int) :=
  if x54386 < p2 then (if 0 ≤ (IntKind.u64.wrap (IntKind.i64.wrap (8 * x54386))) then ((some (shrI .u64 p1 (IntKind.u64.wrap (IntKind.i64.wrap (8 * x54386))))).bind fun x54417 => (if (0 : Int) ≤ IntKind.i64.wrap ((IntKind.i64.wrap (p2 - 1)) - x54386) ∧ IntKind.i64.wrap ((IntKind.i64.wrap (p2 - 1)) - x54386) < (x54287.length : Int) - (p0.length : Int) then ((getI x54387 ((p0.length : Int) + (IntKind.i64.wrap ((IntKind.i64.wrap (p2 - 1)) - x54386)))).bind fun x54419 => ((setI x54387 ((p0.length : Int) + (IntKind.i64.wrap ((IntKind.i64.wrap (p2 - 1)) - x54386))) (IntKind.u8.wrap x54417)).bind fun y54424 => (rec54411 (IntKind.i64.wrap (x54386 + 1)) y54424))) else none)) else none) else (some x54387)
def g33_l1 (p0 : (List Int)) (p1 : Int) (p2 : Int) (x54287 : (List Int)) : Nat → Int → (List Int) → Option (List Int)
  | 0, _, _ => none
  | n + 1, x54386, x54387 => g33_l1B p0 p1 p2 x54287 (g33_l1 p0 p1 p2 x54287 n) x54386 x54387
def g33 (p0 : (List Int)) (p1 : Int) (p2 : Int) : Option (List Int) :=
  (repI (IntKind.i64.wrap ((p0.length : Int) + p2)) 0 1).bind fun x54270 => ((some (copyI x54270 0 (x54270.length : Int) p0)).bind fun x54287 => (if (0 : Int) ≤ (p0.length : Int) ∧ (p0.length : Int) ≤ (x54287.length : Int) ∧ (x54287.length : Int) ≤ (x54287.length : Int) then (g33_l1 p0 p1 p2 x54287 FUEL 0 x54287) else none))

-- incipit/pack.U16 
def g16 (p0 : (List Int)) (p1 : Int) : Option (List Int) :=
  (g33 p0 (IntKind.u64.wrap p1) 2).bind fun x54459 => (some x54459)

-- incipit/node.Put (('agg', ('.', 'ro', 'ro', 'ro')),)
def g6_l3B (p0 : T_api_Node) (x55607 : Int) (rec56001 : (List Int) → Int → Option (Int × (List Int) × Int)) (x55918 : (List Int)) (x55926 : Int) : Option (Int × (List Int) × Int) :=
  if x55926 < (p0.Keys.length : Int) then ((getI p0.Keys x55926).bind fun x56006 => ((getI p0.Kids (IntKind.i64.wrap (x55926 + 1))).bind fun x56025 => ((g15 x55918 x56006).bind fun x56038 => ((g16 x56038 (IntKind.u16.wrap x56025)).bind fun x56059 => (rec56001 x56059 (IntKind.i64.wrap (x55926 + 1))))))) else ((appZI x55918 (IntKind.i64.wrap (240 - (x55918.length : Int))) 0 1).bind fun x56076 => (some (x55607, x56076, 0)))
def g6_l3 (p0 : T_api_Node) (x55607 : Int) : Nat → (List Int) → Int → Option (Int × (List Int) × Int)
  | 0, _, _ => none
  | n + 1, x55918, x55926 => g6_l3B p0 x55607 (g6_l3 p0 x55607 n) x55918 x55926
def g6_j2 (p0 : T_api_Node) (x55599 : (List Int)) (x55607 : Int) : Option (Int × (List Int) × Int) :=
  g6_l3 p0 x55607 FUEL x55599 0
def g6_l1B (p0 : T_api_Node) (rec55487 : (List Int) → Int → Option (Int × (List Int) × Int)) (x55398 : (List Int)) (x55406 : Int) : Option (Int × (List Int) × Int) :=
  if x55406 < (p0.Pairs.length : Int) then ((getI p0.Pairs x55406).bind fun x55492 => ((g15 x55398 x55492.Key).bind fun x55530 => ((g15 x55530 x55492.Val).bind fun x55551 => (rec55487 x55551 (IntKind.i64.wrap (x55406 + 1)))))) else (if ¬ (p0.Leaf = true) then ((getI p0.Kids 0).bind fun x56089 => ((g16 x55398 (IntKind.u16.wrap x56089)).bind fun x56101 => (g6_j2 p0 x56101 4))) else (g6_j2 p0 x55398 3))
def g6_l1 (p0 : T_api_Node) : Nat → (List Int) → Int → Option (Int × (List Int) × Int)
  | 0, _, _ => none
  | n + 1, x55398, x55406 => g6_l1B p0 (g6_l1 p0 n) x55398 x55406
def g6 (p0 : T_api_Node) : Option (Int × (List Int) × Int) :=
  (g13 p0).bind fun x55047 => (if x55047 ≠ 0 then (some (0, ([] : List Int), x55047)) else ((g14 p0).bind fun x55056 => (g6_l1 p0 FUEL ([IntKind.u8.wrap x55056] : List Int) 0)))

-- bytes.Equal 
def g11 (p0 : (List Int)) (p1 : (List Int)) : Option Bool :=
  some (decide ((strOfNums p0).toList = (strOfNums p1).toList))

-- incipit/node.ahead (('agg', ('.', 'ro', 'ro', 'ro')), 'ro', '.')
def g31_j1 (x60487 : Int) : Option Int :=
  some x60487
def g31_l3B (p0 : T_api_Node) (p1 : (List Int)) (p2 : Bool) (rec61730 : Int → Int → Option Int) (x61600 : Int) (x61601 : Int) : Option Int :=
  if x61600 < (p0.Keys.length : Int) then ((getI p0.Keys x61600).bind fun x61797 => ((g49 x61797 p1).bind fun x61832 => (if x61832 < 0 then (if x61832 < 0 then (rec61730 (IntKind.i64.wrap (x61600 + 1)) (IntKind.i64.wrap (x61601 + 1))) else (g31_j1 x61601)) else (if x61832 = 0 then (if p2 = true then (rec61730 (IntKind.i64.wrap (x61600 + 1)) (IntKind.i64.wrap (x61601 + 1))) else (g31_j1 x61601)) else (g31_j1 x61601))))) else (g31_j1 x61601)
def g31_l3 (p0 : T_api_Node) (p1 : (List Int)) (p2 : Bool) : Nat → Int → Int → Option Int
  | 0, _, _ => none
  | n + 1, x61600, x61601 => g31_l3B p0 p1 p2 (g31_l3 p0 p1 p2 n) x61600 x61601
def g31_l2B (p0 : T_api_Node) (p1 : (List Int)) (p2 : Bool) (rec61307 : Int → Int → Option Int) (x61147 : Int) (x61148 : Int) : Option Int :=
  if x61147 < (p0.Pairs.length : Int) then ((getI p0.Pairs x61147).bind fun x61389 => ((g49 x61389.Key p1).bind fun x61439 => (if x61439 < 0 then (if x61439 < 0 then (rec61307 (IntKind.i64.wrap (x61147 + 1)) (IntKind.i64.wrap (x61148 + 1))) else (g31_j1 x61148)) else (if x61439 = 0 then (if p2 = true then (rec61307 (IntKind.i64.wrap (x61147 + 1)) (IntKind.i64.wrap (x61148 + 1))) else (g31_j1 x61148)) else (g31_j1 x61148))))) else (g31_l3 p0 p1 p2 FUEL 0 x61148)
def g31_l2 (p0 : T_api_Node) (p1 : (List Int)) (p2 : Bool) : Nat → Int → Int → Option Int
  | 0, _, _ => none
  | n + 1, x61147, x61148 => g31_l2B p0 p1 p2 (g31_l2 p0 p1 p2 n) x61147 x61148
def g31 (p0 : T_api_Node) (p1 : (List Int)) (p2 : Bool) : Option Int :=
  g31_l2 p0 p1 p2 FUEL 0 0

-- incipit/node.Kid (('agg', ('.', 'ro', 'ro', 'ro')), 'ro')
def g12 (p0 : T_api_Node) (p1 : (List Int)) : Option Int :=
  (g29 p0).bind fun x61922 => (if ¬ (x61922 = true) then (some 0) else (if p0.Leaf = true then (some 0) else ((g31 p0 p1 true).bind fun x61931 => (some x61931))))

-- incipit/incipitlaw10.live 
def g4_j1 (x62253 : Bool) : Option Bool :=
  some x62253
def g4  : Option Bool :=
  (g6 (T_api_Node.mk true ([(T_api_Pair.mk ([97] : List Int) ([7] : List Int)), (T_api_Pair.mk ([98] : List Int) [])] : List T_api_Pair) [] [])).bind fun x62118 => (if x62118.2.2 = 0 then (if x62118.1 = 3 then (if (x62118.2.1.length : Int) = 240 then ((cutI x62118.2.1 0 9).bind fun y62261 => ((g11 y62261 ([2, 1, 97, 1, 7, 1, 98, 0, 0] : List Int)).bind fun x62280 => (if x62280 = true then ((g12 (T_api_Node.mk false [] ([([98] : List Int)] : List (List Int)) ([5, 6] : List Int)) ([98] : List Int)).bind fun x62308 => (if x62308 = 1 then ((g12 (T_api_Node.mk false [] ([([98] : List Int)] : List (List Int)) ([5, 6] : List Int)) ([97, 122, 122] : List Int)).bind fun x62337 => (g4_j1 (decide (x62337 = 0)))) else (g4_j1 false))) else (g4_j1 false)))) else (g4_j1 false)) else (g4_j1 false)) else (g4_j1 false))

-- incipit/incipitlaw10.few 
def g5_l4B (x74060 : Int) (rec75229 : Int → Option Bool) (x75816 : T_api_Node) (rec76355 : Int → Option Bool) (x76322 : Int) : Option Bool :=
  if x76322 < (x75816.Keys.length : Int) then ((getI x75816.Keys x76322).bind fun x76375 => (if (x76375.length : Int) > 300 then (some false) else (rec76355 (IntKind.i64.wrap (x76322 + 1))))) else (rec75229 (IntKind.i64.wrap (x74060 + 1)))
def g5_l4 (x74060 : Int) (rec75229 : Int → Option Bool) (x75816 : T_api_Node) : Nat → Int → Option Bool
  | 0, _ => none
  | n + 1, x76322 => g5_l4B x74060 rec75229 x75816 (g5_l4 x74060 rec75229 x75816 n) x76322
def g5_l3B (x74060 : Int) (rec75229 : Int → Option Bool) (x75816 : T_api_Node) (rec76219 : Int → Option Bool) (x76150 : Int) : Option Bool :=
  if x76150 < (x75816.Pairs.length : Int) then ((getI x75816.Pairs x76150).bind fun x76256 => (if (x76256.Key.length : Int) > 300 then (some false) else (if (x76256.Val.length : Int) > 300 then (some false) else (rec76219 (IntKind.i64.wrap (x76150 + 1)))))) else (g5_l4 x74060 rec75229 x75816 FUEL 0)
def g5_l3 (x74060 : Int) (rec75229 : Int → Option Bool) (x75816 : T_api_Node) : Nat → Int → Option Bool
  | 0, _ => none
  | n + 1, x76150 => g5_l3B x74060 rec75229 x75816 (g5_l3 x74060 rec75229 x75816 n) x76150
def g5_j2 (x74060 : Int) (rec75229 : Int → Option Bool) (x75816 : T_api_Node) (x75867 : Bool) (x75868 : Bool) (x75869 : Bool) (x75870 : Bool) : Option Bool :=
  if x75870 = true then (some false) else (g5_l3 x74060 rec75229 x75816 FUEL 0)
def g5_l1B (p0 : (List T_api_Node)) (rec75229 : Int → Option Bool) (x74060 : Int) : Option Bool :=
  if x74060 < (p0.length : Int) then ((getI p0 x74060).bind fun x75816 => (if (x75816.Pairs.length : Int) > 300 then (g5_j2 x74060 rec75229 x75816 true true true true) else (if (x75816.Keys.length : Int) > 300 then (g5_j2 x74060 rec75229 x75816 false (decide ((x75816.Keys.length : Int) > 300)) true true) else (g5_j2 x74060 rec75229 x75816 false (decide ((x75816.Keys.length : Int) > 300)) false (decide ((x75816.Kids.length : Int) > 300)))))) else (some true)
def g5_l1 (p0 : (List T_api_Node)) : Nat → Int → Option Bool
  | 0, _ => none
  | n + 1, x74060 => g5_l1B p0 (g5_l1 p0 n) x74060
def g5 (p0 : (List T_api_Node)) : Option Bool :=
  g5_l1 p0 FUEL 0

-- incipit/pack.Read 
def g17 (p0 : (List Int)) : Option T_pack_Reader :=
  (repI (IntKind.i64.wrap ((p0.length : Int) + 0)) 0 1).bind fun x76648 => ((some (copyI x76648 0 (x76648.length : Int) p0)).bind fun x76665 => (if (0 : Int) ≤ (p0.length : Int) ∧ (p0.length : Int) ≤ (x76665.length : Int) ∧ (x76665.length : Int) ≤ (x76665.length : Int) then (some (T_pack_Reader.mk x76665 0 true)) else none))

-- (*incipit/pack.Reader).none (('obj', 72, ('own', '.', '.')),)
def g51 (p0 : T_pack_Reader) : Option Bool :=
  if ¬ (p0.made = true) then (some true) else (some (decide (p0.err ≠ 0)))

-- (*incipit/pack.Reader).fails (('obj', 72, ('own', '.', '.')), '.')
def g52 (p0 : T_pack_Reader) (p1 : Int) : Option T_pack_Reader :=
  some (T_pack_Reader.mk p0.b p1 p0.made)

-- (*incipit/pack.Reader).next (('obj', 72, ('own', '.', '.')), '.')
def g53 (p0 : T_pack_Reader) (p1 : Int) : Option ((List Int) × T_pack_Reader) :=
  (g51 p0).bind fun x76889 => (if x76889 = true then (some ([], p0)) else (if p1 > (p0.b.length : Int) then ((g52 p0 10).bind fun x76921 => (some ([], x76921))) else (if p1 ≤ p1 ∧ p1 ≤ (p0.b.length : Int) then ((cutI p0.b 0 p1).bind fun y76943 => ((cutI p0.b p1 (p0.b.length : Int)).bind fun y76954 => (some (y76943, (T_pack_Reader.mk y76954 p0.err p0.made))))) else none)))

-- (*incipit/pack.Reader).number (('obj', 72, ('own', '.', '.')), '.')
def g50_l1B (x77144 : ((List Int) × T_pack_Reader)) (rec77183 : Int → Int → Option (Int × T_pack_Reader)) (x77171 : Int) (x77172 : Int) : Option (Int × T_pack_Reader) :=
  if x77172 < (x77144.1.length : Int) then ((getI x77144.1 x77172).bind fun x77188 => (rec77183 (orI .u64 (shlI .u64 x77171 8) (IntKind.u64.wrap x77188)) (IntKind.i64.wrap (x77172 + 1)))) else (some (x77171, x77144.2))
def g50_l1 (x77144 : ((List Int) × T_pack_Reader)) : Nat → Int → Int → Option (Int × T_pack_Reader)
  | 0, _, _ => none
  | n + 1, x77171, x77172 => g50_l1B x77144 (g50_l1 x77144 n) x77171 x77172
def g50 (p0 : T_pack_Reader) (p1 : Int) : Option (Int × T_pack_Reader) :=
  (g53 p0 p1).bind fun x77144 => (g50_l1 x77144 FUEL 0 0)

-- (*incipit/pack.Reader).U8 (('obj', 72, ('own', '.', '.')),)
def g35 (p0 : T_pack_Reader) : Option (Int × T_pack_Reader) :=
  (g50 p0 1).bind fun x77221 => (some (IntKind.u8.wrap x77221.1, x77221.2))

-- (*incipit/pack.Reader).none (('obj', 72, ('ro', '.', '.')),)
def g51_1 (p0 : T_pack_Reader) : Option Bool :=
  if ¬ (p0.made = true) then (some true) else (some (decide (p0.err ≠ 0)))

-- (*incipit/pack.Reader).fails (('obj', 72, ('ro', '.', '.')), '.')
def g52_1 (p0 : T_pack_Reader) (p1 : Int) : Option T_pack_Reader :=
  some (T_pack_Reader.mk p0.b p1 p0.made)

-- (*incipit/pack.Reader).next (('obj', 72, ('ro', '.', '.')), '.')
def g53_1 (p0 : T_pack_Reader) (p1 : Int) : Option ((List Int) × T_pack_Reader) :=
  (g51_1 p0).bind fun x77446 => (if x77446 = true then (some ([], p0)) else (if p1 > (p0.b.length : Int) then ((g52_1 p0 10).bind fun x77467 => (some ([], x77467))) else (if p1 ≤ p1 ∧ p1 ≤ (p0.b.length : Int) then ((cutI p0.b 0 p1).bind fun y77478 => ((cutI p0.b p1 (p0.b.length : Int)).bind fun y77489 => (some (y77478, (T_pack_Reader.mk y77489 p0.err p0.made))))) else none)))

-- (*incipit/pack.Reader).Text (('obj', 72, ('ro', '.', '.')), '.')
def g36_j1 (p0 : T_pack_Reader) (x77610 : Int) : Option ((List Int) × T_pack_Reader) :=
  if x77610 ≠ 0 then ((g52_1 p0 x77610).bind fun x77626 => (some ([], x77626))) else ((getI p0.b 0).bind fun x77637 => ((g53_1 p0 (IntKind.i64.wrap (1 + (IntKind.i64.wrap x77637)))).bind fun x77645 => ((cutI x77645.1 1 (x77645.1.length : Int)).bind fun y77660 => (some (y77660, x77645.2)))))
def g36 (p0 : T_pack_Reader) (p1 : Int) : Option ((List Int) × T_pack_Reader) :=
  (g51_1 p0).bind fun x77575 => (if x77575 = true then (some ([], p0)) else (if p1 < 0 then (g36_j1 p0 1) else (if (p0.b.length : Int) = 0 then (g36_j1 p0 10) else ((getI p0.b 0).bind fun x77674 => (if (IntKind.i64.wrap x77674) > p1 then (g36_j1 p0 3) else ((getI p0.b 0).bind fun x77688 => (if (IntKind.i64.wrap x77688) ≥ (p0.b.length : Int) then (g36_j1 p0 10) else (g36_j1 p0 0))))))))

-- (*incipit/pack.Reader).Err (('obj', 72, ('ro', '.', '.')),)
def g20 (p0 : T_pack_Reader) : Option Int :=
  if ¬ (p0.made = true) then (some 2) else (some p0.err)

-- incipit/node.leaf (('obj', 72, ('own', '.', '.')),)
def g18_j1 (x92178 : (List Int)) (x92183 : Int) (x92184 : Bool) (x92185 : (List T_api_Pair)) : Option (T_api_Node × T_pack_Reader) :=
  some ((T_api_Node.mk true x92185 ([] : List (List Int)) ([] : List Int)), (T_pack_Reader.mk x92178 x92183 x92184))
def g18_l2B (x92201 : (Int × T_pack_Reader)) (rec95274 : Int → (List Int) → Int → Bool → (List T_api_Pair) → Option (T_api_Node × T_pack_Reader)) (x93524 : Int) (x93525 : (List Int)) (x93530 : Int) (x93531 : Bool) (x93532 : (List T_api_Pair)) : Option (T_api_Node × T_pack_Reader) :=
  if x93524 < x92201.1 then ((g36 (T_pack_Reader.mk x93525 x93530 x93531) 25).bind fun x96144 => ((g36 x96144.2 24).bind fun x96891 => ((appI x93532 ([(T_api_Pair.mk x96144.1 x96891.1)] : List T_api_Pair) 48).bind fun x96929 => ((g20 x96891.2).bind fun x96939 => (if x96939 ≠ 0 then (g18_j1 x96891.2.b x96891.2.err x96891.2.made x96929) else (rec95274 (IntKind.u8.wrap (x93524 + 1)) x96891.2.b x96891.2.err x96891.2.made x96929)))))) else (g18_j1 x93525 x93530 x93531 x93532)
def g18_l2 (x92201 : (Int × T_pack_Reader)) : Nat → Int → (List Int) → Int → Bool → (List T_api_Pair) → Option (T_api_Node × T_pack_Reader)
  | 0, _, _, _, _, _ => none
  | n + 1, x93524, x93525, x93530, x93531, x93532 => g18_l2B x92201 (g18_l2 x92201 n) x93524 x93525 x93530 x93531 x93532
def g18 (p0 : T_pack_Reader) : Option (T_api_Node × T_pack_Reader) :=
  (g35 p0).bind fun x92201 => (g18_l2 x92201 FUEL 0 x92201.2.b x92201.2.err x92201.2.made ([] : List T_api_Pair))

-- (*incipit/pack.Reader).number (('obj', 72, ('ro', '.', '.')), '.')
def g50_1_l1B (x97271 : ((List Int) × T_pack_Reader)) (rec97310 : Int → Int → Option (Int × T_pack_Reader)) (x97298 : Int) (x97299 : Int) : Option (Int × T_pack_Reader) :=
  if x97299 < (x97271.1.length : Int) then ((getI x97271.1 x97299).bind fun x97315 => (rec97310 (orI .u64 (shlI .u64 x97298 8) (IntKind.u64.wrap x97315)) (IntKind.i64.wrap (x97299 + 1)))) else (some (x97298, x97271.2))
def g50_1_l1 (x97271 : ((List Int) × T_pack_Reader)) : Nat → Int → Int → Option (Int × T_pack_Reader)
  | 0, _, _ => none
  | n + 1, x97298, x97299 => g50_1_l1B x97271 (g50_1_l1 x97271 n) x97298 x97299
def g50_1 (p0 : T_pack_Reader) (p1 : Int) : Option (Int × T_pack_Reader) :=
  (g53_1 p0 p1).bind fun x97271 => (g50_1_l1 x97271 FUEL 0 0)

-- (*incipit/pack.Reader).U16 (('obj', 72, ('ro', '.', '.')),)
def g37 (p0 : T_pack_Reader) : Option (Int × T_pack_Reader) :=
  (g50_1 p0 2).bind fun x97345 => (some (IntKind.u16.wrap x97345.1, x97345.2))

-- incipit/node.inner (('obj', 72, ('own', '.', '.')),)
def g19_j1 (x120933 : (List Int)) (x120938 : Int) (x120939 : Bool) (x120940 : (List (List Int))) (x120948 : (List Int)) : Option (T_api_Node × T_pack_Reader) :=
  some ((T_api_Node.mk false ([] : List T_api_Pair) x120940 x120948), (T_pack_Reader.mk x120933 x120938 x120939))
def g19_j3 (x123085 : Int) (x123094 : (List Int)) (rec125947 : Int → (List (List Int)) → (List Int) → (List Int) → Int → Bool → Option (T_api_Node × T_pack_Reader)) (x127857 : (List Int)) (x127862 : (List (List Int))) (x127870 : (List (List Int))) (x127878 : (List Int)) (x127883 : Int) (x127884 : Bool) : Option (T_api_Node × T_pack_Reader) :=
  (g37 (T_pack_Reader.mk x127878 x127883 x127884)).bind fun x128191 => ((appI x123094 ([IntKind.i64.wrap x128191.1] : List Int) 8).bind fun x128221 => ((g20 x128191.2).bind fun x128231 => (if x128231 ≠ 0 then (g19_j1 x128191.2.b x128191.2.err x128191.2.made x127870 x128221) else (rec125947 (IntKind.u8.wrap (x123085 + 1)) x127870 x128221 x128191.2.b x128191.2.err x128191.2.made))))
def g19_l2B (x113074 : (Int × T_pack_Reader)) (rec125947 : Int → (List (List Int)) → (List Int) → (List Int) → Int → Bool → Option (T_api_Node × T_pack_Reader)) (x123085 : Int) (x123086 : (List (List Int))) (x123094 : (List Int)) (x123102 : (List Int)) (x123107 : Int) (x123108 : Bool) : Option (T_api_Node × T_pack_Reader) :=
  if x123085 < x113074.1 then ((g36 (T_pack_Reader.mk x123102 x123107 x123108) 25).bind fun x128692 => ((appI x123086 ([x128692.1] : List (List Int)) 24).bind fun x128730 => (g19_j3 x123085 x123094 rec125947 x128692.1 ([x128692.1] : List (List Int)) x128730 x128692.2.b x128692.2.err x128692.2.made))) else (g19_j1 x123102 x123107 x123108 x123086 x123094)
def g19_l2 (x113074 : (Int × T_pack_Reader)) : Nat → Int → (List (List Int)) → (List Int) → (List Int) → Int → Bool → Option (T_api_Node × T_pack_Reader)
  | 0, _, _, _, _, _, _ => none
  | n + 1, x123085, x123086, x123094, x123102, x123107, x123108 => g19_l2B x113074 (g19_l2 x113074 n) x123085 x123086 x123094 x123102 x123107 x123108
def g19 (p0 : T_pack_Reader) : Option (T_api_Node × T_pack_Reader) :=
  (g35 p0).bind fun x113074 => ((g37 x113074.2).bind fun x113085 => (g19_l2 x113074 FUEL 0 ([] : List (List Int)) ([IntKind.i64.wrap x113085.1] : List Int) x113085.2.b x113085.2.err x113085.2.made))

-- incipit/node.Get 
def g7_j1 (p1 : (List Int)) (x129214 : (List Int)) (x129219 : Int) (x129220 : Bool) (x129221 : Bool) (x129222 : (List T_api_Pair)) (x129230 : (List (List Int))) (x129238 : (List Int)) : Option (T_api_Node × Int) :=
  (g20 (T_pack_Reader.mk x129214 x129219 x129220)).bind fun x129261 => (if x129261 ≠ 0 then (some ((T_api_Node.mk false ([] : List T_api_Pair) ([] : List (List Int)) ([] : List Int)), 100)) else ((g6 (T_api_Node.mk x129221 x129222 x129230 x129238)).bind fun x129358 => (if x129358.2.2 ≠ 0 then (some ((T_api_Node.mk false ([] : List T_api_Pair) ([] : List (List Int)) ([] : List Int)), 100)) else ((g11 p1 x129358.2.1).bind fun x129402 => (if ¬ (x129402 = true) then (some ((T_api_Node.mk false ([] : List T_api_Pair) ([] : List (List Int)) ([] : List Int)), 100)) else (some ((T_api_Node.mk x129221 x129222 x129230 x129238), 0)))))))
def g7 (p0 : Int) (p1 : (List Int)) : Option (T_api_Node × Int) :=
  (g17 p1).bind fun x129123 => (if p0 = 3 then ((g18 x129123).bind fun x129423 => (g7_j1 p1 x129423.2.b x129423.2.err x129423.2.made x129423.1.Leaf x129423.1.Pairs x129423.1.Keys x129423.1.Kids)) else (if p0 = 4 then ((g19 x129123).bind fun x129458 => (g7_j1 p1 x129458.2.b x129458.2.err x129458.2.made x129458.1.Leaf x129458.1.Pairs x129458.1.Keys x129458.1.Kids)) else (some ((T_api_Node.mk false ([] : List T_api_Pair) ([] : List (List Int)) ([] : List Int)), 42))))

-- incipit/node.Same$1 (('agg', ('ro', 'ro')), ('agg', ('ro', 'ro')))
def g21 (p0 : T_api_Pair) (p1 : T_api_Pair) : Option Bool :=
  (g11 p0.Key p1.Key).bind fun x129754 => (if x129754 = true then ((g11 p0.Val p1.Val).bind fun x129762 => (some x129762)) else (some false))

-- slices.Equal[[]int,int] 
def g24_l1B (p0 : (List Int)) (p1 : (List Int)) (rec131615 : Int → Option Bool) (x131562 : Int) : Option Bool :=
  if x131562 < (p0.length : Int) then ((getI p0 x131562).bind fun x131649 => ((getI p1 x131562).bind fun x131658 => (if x131649 ≠ x131658 then (some false) else (rec131615 (IntKind.i64.wrap (x131562 + 1)))))) else (some true)
def g24_l1 (p0 : (List Int)) (p1 : (List Int)) : Nat → Int → Option Bool
  | 0, _ => none
  | n + 1, x131562 => g24_l1B p0 p1 (g24_l1 p0 p1 n) x131562
def g24 (p0 : (List Int)) (p1 : (List Int)) : Option Bool :=
  if (p0.length : Int) ≠ (p1.length : Int) then (some false) else (g24_l1 p0 p1 FUEL 0)

-- incipit/node.Same (('agg', ('.', 'ro', 'ro', 'ro')), ('agg', ('.', 'ro', 'ro', 'ro')))
def g8_j1 (x138218 : Bool) : Option Bool :=
  some x138218
def g8_j3 (p0 : T_api_Node) (p1 : T_api_Node) (x139526 : Bool) : Option Bool :=
  if x139526 = true then ((g24 p0.Kids p1.Kids).bind fun x139530 => (g8_j1 x139530)) else (g8_j1 false)
def g8_l4B (p0 : T_api_Node) (p1 : T_api_Node) (rec139924 : Int → Option Bool) (x139847 : Int) : Option Bool :=
  if x139847 < (p0.Keys.length : Int) then ((getI p0.Keys x139847).bind fun x139965 => ((getI p1.Keys x139847).bind fun x139979 => ((g11 x139965 x139979).bind fun x139993 => (if ¬ (x139993 = true) then (g8_j3 p0 p1 false) else (rec139924 (IntKind.i64.wrap (x139847 + 1))))))) else (g8_j3 p0 p1 true)
def g8_l4 (p0 : T_api_Node) (p1 : T_api_Node) : Nat → Int → Option Bool
  | 0, _ => none
  | n + 1, x139847 => g8_l4B p0 p1 (g8_l4 p0 p1 n) x139847
def g8_j2 (p0 : T_api_Node) (p1 : T_api_Node) (x139053 : Bool) : Option Bool :=
  if x139053 = true then (if (p0.Keys.length : Int) ≠ (p1.Keys.length : Int) then (g8_j3 p0 p1 false) else (g8_l4 p0 p1 FUEL 0)) else (g8_j1 false)
def g8_l5B (p0 : T_api_Node) (p1 : T_api_Node) (rec140690 : Int → Option Bool) (x140553 : Int) : Option Bool :=
  if x140553 < (p0.Pairs.length : Int) then ((getI p0.Pairs x140553).bind fun x140761 => ((getI p1.Pairs x140553).bind fun x140790 => ((g21 x140761 x140790).bind fun x140819 => (if ¬ (x140819 = true) then (g8_j2 p0 p1 false) else (rec140690 (IntKind.i64.wrap (x140553 + 1))))))) else (g8_j2 p0 p1 true)
def g8_l5 (p0 : T_api_Node) (p1 : T_api_Node) : Nat → Int → Option Bool
  | 0, _ => none
  | n + 1, x140553 => g8_l5B p0 p1 (g8_l5 p0 p1 n) x140553
def g8 (p0 : T_api_Node) (p1 : T_api_Node) : Option Bool :=
  if p0.Leaf = p1.Leaf then (if (p0.Pairs.length : Int) ≠ (p1.Pairs.length : Int) then (g8_j2 p0 p1 false) else (g8_l5 p0 p1 FUEL 0)) else (g8_j1 false)

-- bytes.trimRightByte 
def g25_l1B (p1 : Int) (rec141434 : (List Int) → Option (List Int)) (x141381 : (List Int)) : Option (List Int) :=
  if (x141381.length : Int) > 0 then ((getI x141381 (IntKind.i64.wrap ((x141381.length : Int) - 1))).bind fun x141466 => (if x141466 = p1 then ((cutI x141381 0 (IntKind.i64.wrap ((x141381.length : Int) - 1))).bind fun y141475 => (rec141434 y141475)) else (some x141381))) else (some x141381)
def g25_l1 (p1 : Int) : Nat → (List Int) → Option (List Int)
  | 0, _ => none
  | n + 1, x141381 => g25_l1B p1 (g25_l1 p1 n) x141381
def g25 (p0 : (List Int)) (p1 : Int) : Option (List Int) :=
  g25_l1 p1 FUEL p0

-- incipit/node.Size (('agg', ('.', 'ro', 'ro', 'ro')),)
def g10 (p0 : T_api_Node) : Option Int :=
  (g29 p0).bind fun x141648 => (if ¬ (x141648 = true) then (some 0) else ((g30 p0).bind fun x141656 => (some x141656)))

-- incipit/incipitlaw10.NodeBack (('agg', ('.', 'ro', 'ro', 'ro')), '.', 'ro')
def g3_j2 (p1 : Int) (p2 : (List Int)) : Option Bool :=
  (g7 p1 p2).bind fun x142584 => (if x142584.2 ≠ 0 then ((g8 x142584.1 (T_api_Node.mk false [] [] [])).bind fun x142638 => (some x142638)) else ((g6 x142584.1).bind fun x142645 => (if x142645.2.2 = 0 then (if x142645.1 = p1 then ((g11 x142645.2.1 p2).bind fun x142674 => (some x142674)) else (some false)) else (some false))))
def g3_j3 (p1 : Int) (p2 : (List Int)) (x142841 : Bool) : Option Bool :=
  if x142841 = true then (some false) else (g3_j2 p1 p2)
def g3_j4 (p0 : T_api_Node) (p1 : Int) (p2 : (List Int)) (x142683 : (Int × (List Int) × Int)) (x142899 : Bool) : Option Bool :=
  if x142899 = true then ((g10 p0).bind fun x142901 => (g3_j3 p1 p2 (decide ((x142683.2.1.length : Int) > x142901)))) else ((g25 x142683.2.1 0).bind fun x142919 => ((g10 p0).bind fun x142930 => (g3_j3 p1 p2 (decide ((x142919.length : Int) > x142930)))))
def g3_j1 (p0 : T_api_Node) (p1 : Int) (p2 : (List Int)) (x142313 : Bool) : Option Bool :=
  if x142313 = true then ((g4).bind fun x142317 => (some x142317)) else ((g6 p0).bind fun x142683 => (if x142683.2.2 = 0 then ((g7 x142683.1 x142683.2.1).bind fun x142702 => (if x142702.2 ≠ 0 then (g3_j3 p1 p2 true) else ((g8 x142702.1 p0).bind fun x142853 => (if ¬ (x142853 = true) then (g3_j3 p1 p2 true) else (if (x142683.2.1.length : Int) ≠ 240 then (g3_j3 p1 p2 true) else (if (x142683.2.1.length : Int) = 0 then (g3_j4 p0 p1 p2 x142683 true) else (g3_j4 p0 p1 p2 x142683 false))))))) else (g3_j2 p1 p2)))
def g3 (p0 : T_api_Node) (p1 : Int) (p2 : (List Int)) : Option Bool :=
  (g4).bind fun x142942 => (if ¬ (x142942 = true) then (g3_j1 p0 p1 p2 true) else ((g5 ([p0] : List T_api_Node)).bind fun x142959 => (if ¬ (x142959 = true) then (g3_j1 p0 p1 p2 true) else (g3_j1 p0 p1 p2 (decide ((p2.length : Int) > 3000))))))

end Go.Proofs.YtefjbhogpgihaaaDoor
