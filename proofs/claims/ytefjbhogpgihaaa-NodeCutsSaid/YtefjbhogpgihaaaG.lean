/- PRINTED BY sy.py: what each Go function computes, in plain Lean. -/
import Derived.Test.YtefjbhogpgihaaaSXaa
namespace Go.Proofs.Ytefjbhogpgihaaa
open Go Go.SX Go.RowKit
set_option maxRecDepth 100000
set_option linter.unusedVariables false
/-- What a slot holds, told by the list of slots. -/
abbrev gd (D : List Value) (i : Nat) : Value := D.getD i undef
structure T_api_Pair where
  Key : (List Int)
  Val : (List Int)
  deriving DecidableEq
structure T_api_Node where
  Leaf : Bool
  Pairs : (List T_api_Pair)
  Keys : (List (List Int))
  Kids : (List Int)
  deriving DecidableEq
-- incipit/node.isKey 
def g78 (p0 : (List Int)) : Option Bool :=
  if (p0.length : Int) > 0 then (some (decide ((p0.length : Int) ≤ 25))) else (some false)

-- bytes.Compare 
def g15 (p0 : (List Int)) (p1 : (List Int)) : Option Int :=
  some (cmpB p0 p1)

-- incipit/node.may$1 (('agg', ('ro', 'ro')),)
def g91 (p0 : T_api_Pair) : Option Bool :=
  some (decide ((p0.Val.length : Int) > 24))

-- incipit/node.isKid 
def g83 (p0 : Int) : Option Bool :=
  if p0 ≥ 2 then (some (decide (p0 < 2048))) else (some false)

-- incipit/node.may$2 
def g93 (p0 : Int) : Option Bool :=
  (g83 p0).bind fun x19957 => (some (decide (¬ (x19957 = true))))

-- incipit/node.may (('agg', ('.', 'ro', 'ro', 'ro')),)
def g50_j3 (x45633 : Bool) : Option Bool :=
  some x45633
def g50_j2 (p0 : T_api_Node) (x45625 : Int) : Option Bool :=
  if ¬ (x45625 ≥ 0) then (if (p0.Pairs.length : Int) ≤ 255 then ((some (IntKind.i64.wrap ((p0.Keys.length : Int) + (p0.Kids.length : Int)))).bind fun x45638 => (g50_j3 (decide (x45638 = 0)))) else (g50_j3 false)) else (g50_j3 false)
def g50_l4B (p0 : T_api_Node) (rec45985 : Int → Option Bool) (x45916 : Int) : Option Bool :=
  if x45916 < (p0.Pairs.length : Int) then ((getI p0.Pairs x45916).bind fun x46022 => ((g91 x46022).bind fun x46046 => (if x46046 = true then (g50_j2 p0 x45916) else (rec45985 (IntKind.i64.wrap (x45916 + 1)))))) else (g50_j2 p0 (-1))
def g50_l4 (p0 : T_api_Node) : Nat → Int → Option Bool
  | 0, _ => none
  | n + 1, x45916 => g50_l4B p0 (g50_l4 p0 n) x45916
def g50_j6 (x46755 : Bool) : Option Bool :=
  some x46755
def g50_j5 (p0 : T_api_Node) (x46739 : Int) : Option Bool :=
  if ¬ (x46739 ≥ 0) then (if (p0.Pairs.length : Int) = 0 then (if (p0.Keys.length : Int) > 0 then (if (p0.Keys.length : Int) ≤ 255 then (g50_j6 (decide ((p0.Kids.length : Int) = (IntKind.i64.wrap ((p0.Keys.length : Int) + 1))))) else (g50_j6 false)) else (g50_j6 false)) else (g50_j6 false)) else (g50_j6 false)
def g50_l7B (p0 : T_api_Node) (rec46949 : Int → Option Bool) (x46912 : Int) : Option Bool :=
  if x46912 < (p0.Kids.length : Int) then ((getI p0.Kids x46912).bind fun x46970 => ((g93 x46970).bind fun x46978 => (if x46978 = true then (g50_j5 p0 x46912) else (rec46949 (IntKind.i64.wrap (x46912 + 1)))))) else (g50_j5 p0 (-1))
def g50_l7 (p0 : T_api_Node) : Nat → Int → Option Bool
  | 0, _ => none
  | n + 1, x46912 => g50_l7B p0 (g50_l7 p0 n) x46912
def g50_j1 (p0 : T_api_Node) (x42674 : Bool) : Option Bool :=
  if ¬ (x42674 = true) then (some false) else (if p0.Leaf = true then (g50_l4 p0 FUEL 0) else (g50_l7 p0 FUEL 0))
def g50_l9B (p0 : T_api_Node) (rec52193 : Int → (List Int) → Bool → Option Bool) (x51973 : Int) (x51974 : (List Int)) (z51979 : Bool) : Option Bool :=
  if x51973 < (p0.Keys.length : Int) then ((getI p0.Keys x51973).bind fun x52302 => ((g78 x52302).bind fun x52373 => (if ¬ (x52373 = true) then (g50_j1 p0 false) else (if (!z51979) = true then ((g15 x51974 x52302).bind fun x52390 => (if x52390 ≥ 0 then (g50_j1 p0 false) else (if 0 < x52302.length then (rec52193 (IntKind.i64.wrap (x51973 + 1)) x52302 false) else none))) else (if 0 < x52302.length then (rec52193 (IntKind.i64.wrap (x51973 + 1)) x52302 false) else none))))) else (g50_j1 p0 true)
def g50_l9 (p0 : T_api_Node) : Nat → Int → (List Int) → Bool → Option Bool
  | 0, _, _, _ => none
  | n + 1, x51973, x51974, z51979 => g50_l9B p0 (g50_l9 p0 n) x51973 x51974 z51979
def g50_l8B (p0 : T_api_Node) (rec51281 : Int → (List Int) → Bool → Option Bool) (x51031 : Int) (x51032 : (List Int)) (z51037 : Bool) : Option Bool :=
  if x51031 < (p0.Pairs.length : Int) then ((getI p0.Pairs x51031).bind fun x51405 => ((g78 x51405.Key).bind fun x51491 => (if ¬ (x51491 = true) then (g50_j1 p0 false) else (if (!z51037) = true then ((g15 x51032 x51405.Key).bind fun x51508 => (if x51508 ≥ 0 then (g50_j1 p0 false) else (if 0 < x51405.Key.length then (rec51281 (IntKind.i64.wrap (x51031 + 1)) x51405.Key false) else none))) else (if 0 < x51405.Key.length then (rec51281 (IntKind.i64.wrap (x51031 + 1)) x51405.Key false) else none))))) else (g50_l9 p0 FUEL 0 x51032 z51037)
def g50_l8 (p0 : T_api_Node) : Nat → Int → (List Int) → Bool → Option Bool
  | 0, _, _, _ => none
  | n + 1, x51031, x51032, z51037 => g50_l8B p0 (g50_l8 p0 n) x51031 x51032 z51037
def g50 (p0 : T_api_Node) : Option Bool :=
  g50_l8 p0 FUEL 0 [] true

-- incipit/node.many (('agg', ('.', 'ro', 'ro', 'ro')),)
def g66 (p0 : T_api_Node) : Option Int :=
  (some (IntKind.i64.wrap ((p0.Pairs.length : Int) + (p0.Keys.length : Int)))).bind fun x52484 => (some x52484)

-- incipit/node.width (('agg', ('.', 'ro', 'ro', 'ro')), '.')
def g94 (p0 : T_api_Node) (p1 : Int) : Option Int :=
  if p0.Leaf = true then ((getI p0.Pairs p1).bind fun x52724 => ((getI p0.Pairs p1).bind fun x52749 => ((some (IntKind.i64.wrap ((IntKind.i64.wrap (2 + (x52724.Key.length : Int))) + (x52749.Val.length : Int)))).bind fun x52774 => (some x52774)))) else ((getI p0.Keys p1).bind fun x52776 => (some (IntKind.i64.wrap (3 + (x52776.length : Int)))))

-- incipit/node.size (('agg', ('.', 'ro', 'ro', 'ro')),)
def g52_l2B (p0 : T_api_Node) (x52936 : Int) (rec52967 : Int → Int → Option Int) (x52954 : Int) (x52955 : Int) : Option Int :=
  if x52955 < x52936 then ((g94 p0 x52955).bind fun x52972 => (rec52967 (IntKind.i64.wrap (x52954 + x52972)) (IntKind.i64.wrap (x52955 + 1)))) else (some x52954)
def g52_l2 (p0 : T_api_Node) (x52936 : Int) : Nat → Int → Int → Option Int
  | 0, _, _ => none
  | n + 1, x52954, x52955 => g52_l2B p0 x52936 (g52_l2 p0 x52936 n) x52954 x52955
def g52_j1 (p0 : T_api_Node) (x52890 : Int) : Option Int :=
  (g66 p0).bind fun x52936 => (g52_l2 p0 x52936 FUEL x52890 0)
def g52 (p0 : T_api_Node) : Option Int :=
  if ¬ (p0.Leaf = true) then (g52_j1 p0 3) else (g52_j1 p0 1)

-- incipit/node.Check (('agg', ('.', 'ro', 'ro', 'ro')),)
def g26 (p0 : T_api_Node) : Option Int :=
  (g50 p0).bind fun x53039 => (if ¬ (x53039 = true) then (some 100) else ((g52 p0).bind fun x53047 => (if x53047 > 240 then (some 3) else (some 0))))

-- incipit/pack.Text 
def g96 (p0 : (List Int)) (p1 : (List Int)) : Option ((List Int) × Int) :=
  if (p1.length : Int) > 255 then (some (([] : List Int), 3)) else ((some (IntKind.i64.wrap ((p0.length : Int) + (IntKind.i64.wrap (1 + (p1.length : Int)))))).bind fun x53473 => ((repI x53473 0 1).bind fun x53475 => ((some (copyI x53475 0 (x53475.length : Int) p0)).bind fun x53492 => (if (0 : Int) ≤ (p0.length : Int) ∧ (p0.length : Int) ≤ (x53492.length : Int) ∧ (x53492.length : Int) ≤ (x53492.length : Int) then (if (0 : Int) ≤ 0 ∧ 0 < (x53492.length : Int) - (p0.length : Int) then ((getI x53492 ((p0.length : Int) + 0)).bind fun x53510 => ((setI x53492 ((p0.length : Int) + 0) (IntKind.u8.wrap (p1.length : Int))).bind fun y53515 => (if (0 : Int) ≤ 1 ∧ 1 ≤ (x53492.length : Int) - (p0.length : Int) ∧ (x53492.length : Int) - (p0.length : Int) ≤ (x53492.length : Int) - (p0.length : Int) then ((some (copyI y53515 ((p0.length : Int) + 1) ((p0.length : Int) + ((x53492.length : Int) - (p0.length : Int))) p1)).bind fun x53541 => (some (x53541, 0))) else none))) else none) else none))))

-- incipit/node.text 
def g67 (p0 : (List Int)) (p1 : (List Int)) : Option (List Int) :=
  (g96 p0 p1).bind fun x53572 => (some x53572.1)

-- incipit/pack.wide 
def g97_l1B (p0 : (List Int)) (p1 : Int) (p2 : Int) (x54338 : (List Int)) (rec54463 : Int → (List Int) → Option (List Int)) (x54438 : Int) (x54439 : (List Int)) : Option (List Int) :=
  if x54438 < p2 then (if 0 ≤ (IntKind.u64.wrap (IntKind.i64.wrap (8 * x54438))) then ((some (shrI .u64 p1 (IntKind.u64.wrap (IntKind.i64.wrap (8 * x54438))))).bind fun x54469 => (if (0 : Int) ≤ IntKind.i64.wrap ((IntKind.i64.wrap (p2 - 1)) - x54438) ∧ IntKind.i64.wrap ((IntKind.i64.wrap (p2 - 1)) - x54438) < (x54338.length : Int) - (p0.length : Int) then ((getI x54439 ((p0.length : Int) + (IntKind.i64.wrap ((IntKind.i64.wrap (p2 - 1)) - x54438)))).bind fun x54471 => ((setI x54439 ((p0.length : Int) + (IntKind.i64.wrap ((IntKind.i64.wrap (p2 - 1)) - x54438))) (IntKind.u8.wrap x54469)).bind fun y54476 => (rec54463 (IntKind.i64.wrap (x54438 + 1)) y54476))) else none)) else none) else (some x54439)
def g97_l1 (p0 : (List Int)) (p1 : Int) (p2 : Int) (x54338 : (List Int)) : Nat → Int → (List Int) → Option (List Int)
  | 0, _, _ => none
  | n + 1, x54438, x54439 => g97_l1B p0 p1 p2 x54338 (g97_l1 p0 p1 p2 x54338 n) x54438 x54439
def g97 (p0 : (List Int)) (p1 : Int) (p2 : Int) : Option (List Int) :=
  (repI (IntKind.i64.wrap ((p0.length : Int) + p2)) 0 1).bind fun x54321 => ((some (copyI x54321 0 (x54321.length : Int) p0)).bind fun x54338 => (if (0 : Int) ≤ (p0.length : Int) ∧ (p0.length : Int) ≤ (x54338.length : Int) ∧ (x54338.length : Int) ≤ (x54338.length : Int) then (g97_l1 p0 p1 p2 x54338 FUEL 0 x54338) else none))

-- incipit/pack.U16 
def g68 (p0 : (List Int)) (p1 : Int) : Option (List Int) :=
  (g97 p0 (IntKind.u64.wrap p1) 2).bind fun x54511 => (some x54511)

-- incipit/node.Put (('agg', ('.', 'ro', 'ro', 'ro')),)
def g30_l3B (p0 : T_api_Node) (x55671 : Int) (rec56070 : (List Int) → Int → Option (Int × (List Int) × Int)) (x55986 : (List Int)) (x55994 : Int) : Option (Int × (List Int) × Int) :=
  if x55994 < (p0.Keys.length : Int) then ((getI p0.Keys x55994).bind fun x56075 => ((getI p0.Kids (IntKind.i64.wrap (x55994 + 1))).bind fun x56095 => ((g67 x55986 x56075).bind fun x56108 => ((g68 x56108 (IntKind.u16.wrap x56095)).bind fun x56129 => (rec56070 x56129 (IntKind.i64.wrap (x55994 + 1))))))) else ((appZI x55986 (IntKind.i64.wrap (240 - (x55986.length : Int))) 0 1).bind fun x56146 => (some (x55671, x56146, 0)))
def g30_l3 (p0 : T_api_Node) (x55671 : Int) : Nat → (List Int) → Int → Option (Int × (List Int) × Int)
  | 0, _, _ => none
  | n + 1, x55986, x55994 => g30_l3B p0 x55671 (g30_l3 p0 x55671 n) x55986 x55994
def g30_j2 (p0 : T_api_Node) (x55663 : (List Int)) (x55671 : Int) : Option (Int × (List Int) × Int) :=
  g30_l3 p0 x55671 FUEL x55663 0
def g30_l1B (p0 : T_api_Node) (rec55550 : (List Int) → Int → Option (Int × (List Int) × Int)) (x55460 : (List Int)) (x55468 : Int) : Option (Int × (List Int) × Int) :=
  if x55468 < (p0.Pairs.length : Int) then ((getI p0.Pairs x55468).bind fun x55555 => ((g67 x55460 x55555.Key).bind fun x55594 => ((g67 x55594 x55555.Val).bind fun x55615 => (rec55550 x55615 (IntKind.i64.wrap (x55468 + 1)))))) else (if ¬ (p0.Leaf = true) then ((getI p0.Kids 0).bind fun x56159 => ((g68 x55460 (IntKind.u16.wrap x56159)).bind fun x56171 => (g30_j2 p0 x56171 4))) else (g30_j2 p0 x55460 3))
def g30_l1 (p0 : T_api_Node) : Nat → (List Int) → Int → Option (Int × (List Int) × Int)
  | 0, _, _ => none
  | n + 1, x55460, x55468 => g30_l1B p0 (g30_l1 p0 n) x55460 x55468
def g30 (p0 : T_api_Node) : Option (Int × (List Int) × Int) :=
  (g26 p0).bind fun x55105 => (if x55105 ≠ 0 then (some (0, ([] : List Int), x55105)) else ((g66 p0).bind fun x55114 => (g30_l1 p0 FUEL ([IntKind.u8.wrap x55114] : List Int) 0)))

-- bytes.Equal 
def g34 (p0 : (List Int)) (p1 : (List Int)) : Option Bool :=
  some (decide ((strOfNums p0).toList = (strOfNums p1).toList))

-- incipit/node.ahead (('agg', ('.', 'ro', 'ro', 'ro')), 'ro', '.')
def g51_j1 (x60557 : Int) : Option Int :=
  some x60557
def g51_l3B (p0 : T_api_Node) (p1 : (List Int)) (p2 : Bool) (rec61800 : Int → Int → Option Int) (x61670 : Int) (x61671 : Int) : Option Int :=
  if x61670 < (p0.Keys.length : Int) then ((getI p0.Keys x61670).bind fun x61867 => ((g15 x61867 p1).bind fun x61902 => (if x61902 < 0 then (if x61902 < 0 then (rec61800 (IntKind.i64.wrap (x61670 + 1)) (IntKind.i64.wrap (x61671 + 1))) else (g51_j1 x61671)) else (if x61902 = 0 then (if p2 = true then (rec61800 (IntKind.i64.wrap (x61670 + 1)) (IntKind.i64.wrap (x61671 + 1))) else (g51_j1 x61671)) else (g51_j1 x61671))))) else (g51_j1 x61671)
def g51_l3 (p0 : T_api_Node) (p1 : (List Int)) (p2 : Bool) : Nat → Int → Int → Option Int
  | 0, _, _ => none
  | n + 1, x61670, x61671 => g51_l3B p0 p1 p2 (g51_l3 p0 p1 p2 n) x61670 x61671
def g51_l2B (p0 : T_api_Node) (p1 : (List Int)) (p2 : Bool) (rec61377 : Int → Int → Option Int) (x61217 : Int) (x61218 : Int) : Option Int :=
  if x61217 < (p0.Pairs.length : Int) then ((getI p0.Pairs x61217).bind fun x61459 => ((g15 x61459.Key p1).bind fun x61509 => (if x61509 < 0 then (if x61509 < 0 then (rec61377 (IntKind.i64.wrap (x61217 + 1)) (IntKind.i64.wrap (x61218 + 1))) else (g51_j1 x61218)) else (if x61509 = 0 then (if p2 = true then (rec61377 (IntKind.i64.wrap (x61217 + 1)) (IntKind.i64.wrap (x61218 + 1))) else (g51_j1 x61218)) else (g51_j1 x61218))))) else (g51_l3 p0 p1 p2 FUEL 0 x61218)
def g51_l2 (p0 : T_api_Node) (p1 : (List Int)) (p2 : Bool) : Nat → Int → Int → Option Int
  | 0, _, _ => none
  | n + 1, x61217, x61218 => g51_l2B p0 p1 p2 (g51_l2 p0 p1 p2 n) x61217 x61218
def g51 (p0 : T_api_Node) (p1 : (List Int)) (p2 : Bool) : Option Int :=
  g51_l2 p0 p1 p2 FUEL 0 0

-- incipit/node.Kid (('agg', ('.', 'ro', 'ro', 'ro')), 'ro')
def g13 (p0 : T_api_Node) (p1 : (List Int)) : Option Int :=
  (g50 p0).bind fun x61992 => (if ¬ (x61992 = true) then (some 0) else (if p0.Leaf = true then (some 0) else ((g51 p0 p1 true).bind fun x62001 => (some x62001))))

-- incipit/incipitlaw10.live 
def g11_j1 (x62323 : Bool) : Option Bool :=
  some x62323
def g11  : Option Bool :=
  (g30 (T_api_Node.mk true ([(T_api_Pair.mk ([97] : List Int) ([7] : List Int)), (T_api_Pair.mk ([98] : List Int) [])] : List T_api_Pair) [] [])).bind fun x62188 => (if x62188.2.2 = 0 then (if x62188.1 = 3 then (if (x62188.2.1.length : Int) = 240 then ((cutI x62188.2.1 0 9).bind fun y62331 => ((g34 y62331 ([2, 1, 97, 1, 7, 1, 98, 0, 0] : List Int)).bind fun x62350 => (if x62350 = true then ((g13 (T_api_Node.mk false [] ([([98] : List Int)] : List (List Int)) ([5, 6] : List Int)) ([98] : List Int)).bind fun x62378 => (if x62378 = 1 then ((g13 (T_api_Node.mk false [] ([([98] : List Int)] : List (List Int)) ([5, 6] : List Int)) ([97, 122, 122] : List Int)).bind fun x62407 => (g11_j1 (decide (x62407 = 0)))) else (g11_j1 false))) else (g11_j1 false)))) else (g11_j1 false)) else (g11_j1 false)) else (g11_j1 false))

-- incipit/incipitlaw10.few 
def g12_l4B (x74130 : Int) (rec75299 : Int → Option Bool) (x75886 : T_api_Node) (rec76425 : Int → Option Bool) (x76392 : Int) : Option Bool :=
  if x76392 < (x75886.Keys.length : Int) then ((getI x75886.Keys x76392).bind fun x76445 => (if (x76445.length : Int) > 300 then (some false) else (rec76425 (IntKind.i64.wrap (x76392 + 1))))) else (rec75299 (IntKind.i64.wrap (x74130 + 1)))
def g12_l4 (x74130 : Int) (rec75299 : Int → Option Bool) (x75886 : T_api_Node) : Nat → Int → Option Bool
  | 0, _ => none
  | n + 1, x76392 => g12_l4B x74130 rec75299 x75886 (g12_l4 x74130 rec75299 x75886 n) x76392
def g12_l3B (x74130 : Int) (rec75299 : Int → Option Bool) (x75886 : T_api_Node) (rec76289 : Int → Option Bool) (x76220 : Int) : Option Bool :=
  if x76220 < (x75886.Pairs.length : Int) then ((getI x75886.Pairs x76220).bind fun x76326 => (if (x76326.Key.length : Int) > 300 then (some false) else (if (x76326.Val.length : Int) > 300 then (some false) else (rec76289 (IntKind.i64.wrap (x76220 + 1)))))) else (g12_l4 x74130 rec75299 x75886 FUEL 0)
def g12_l3 (x74130 : Int) (rec75299 : Int → Option Bool) (x75886 : T_api_Node) : Nat → Int → Option Bool
  | 0, _ => none
  | n + 1, x76220 => g12_l3B x74130 rec75299 x75886 (g12_l3 x74130 rec75299 x75886 n) x76220
def g12_j2 (x74130 : Int) (rec75299 : Int → Option Bool) (x75886 : T_api_Node) (x75937 : Bool) (x75938 : Bool) (x75939 : Bool) (x75940 : Bool) : Option Bool :=
  if x75940 = true then (some false) else (g12_l3 x74130 rec75299 x75886 FUEL 0)
def g12_l1B (p0 : (List T_api_Node)) (rec75299 : Int → Option Bool) (x74130 : Int) : Option Bool :=
  if x74130 < (p0.length : Int) then ((getI p0 x74130).bind fun x75886 => (if (x75886.Pairs.length : Int) > 300 then (g12_j2 x74130 rec75299 x75886 true true true true) else (if (x75886.Keys.length : Int) > 300 then (g12_j2 x74130 rec75299 x75886 false (decide ((x75886.Keys.length : Int) > 300)) true true) else (g12_j2 x74130 rec75299 x75886 false (decide ((x75886.Keys.length : Int) > 300)) false (decide ((x75886.Kids.length : Int) > 300)))))) else (some true)
def g12_l1 (p0 : (List T_api_Node)) : Nat → Int → Option Bool
  | 0, _ => none
  | n + 1, x74130 => g12_l1B p0 (g12_l1 p0 n) x74130
def g12 (p0 : (List T_api_Node)) : Option Bool :=
  g12_l1 p0 FUEL 0

-- incipit/node.halves (('agg', ('.', 'ro', 'ro', 'ro')), '.')
def g75 (p0 : T_api_Node) (p1 : Int) : Option (T_api_Node × (List Int) × T_api_Node) :=
  if p0.Leaf = true then (if p1 ≤ p1 ∧ p1 ≤ (p0.Pairs.length : Int) then ((cutI p0.Pairs 0 p1).bind fun y78286 => ((getI p0.Pairs p1).bind fun x78297 => ((cutI p0.Pairs p1 (p0.Pairs.length : Int)).bind fun y78322 => (some ((T_api_Node.mk true y78286 [] []), x78297.Key, (T_api_Node.mk true y78322 [] [])))))) else none) else (if p1 ≤ p1 ∧ p1 ≤ (p0.Keys.length : Int) then ((cutI p0.Keys 0 p1).bind fun y78375 => (if IntKind.i64.wrap (p1 + 1) ≤ IntKind.i64.wrap (p1 + 1) ∧ IntKind.i64.wrap (p1 + 1) ≤ (p0.Kids.length : Int) then ((cutI p0.Kids 0 (IntKind.i64.wrap (p1 + 1))).bind fun y78386 => ((getI p0.Keys p1).bind fun x78629 => ((cutI p0.Keys (IntKind.i64.wrap (p1 + 1)) (p0.Keys.length : Int)).bind fun y78644 => ((cutI p0.Kids (IntKind.i64.wrap (p1 + 1)) (p0.Kids.length : Int)).bind fun y78654 => (some ((T_api_Node.mk false [] y78375 y78386), x78629, (T_api_Node.mk false [] y78644 y78654))))))) else none)) else none)

-- incipit/node.apart 
def g76 (p0 : Int) (p1 : Int) : Option Int :=
  (some (if IntKind.i64.wrap (p1 - p0) > IntKind.i64.wrap (p0 - p1) then IntKind.i64.wrap (p1 - p0) else IntKind.i64.wrap (p0 - p1))).bind fun x78763 => (some x78763)

-- slices.Clone[[]int,int] 
def g59 (p0 : (List Int)) : Option (List Int) :=
  (appI ([] : List Int) p0 8).bind fun x80041 => (some x80041)

-- slices.Concat[[]byte,byte] 
def g95_l3B (p0 : (List (List Int))) (rec81183 : (List Int) → Int → Option (List Int)) (x81145 : (List Int)) (x81153 : Int) : Option (List Int) :=
  if x81153 < (p0.length : Int) then ((getI p0 x81153).bind fun x81188 => ((appI x81145 x81188 1).bind fun x81205 => (rec81183 x81205 (IntKind.i64.wrap (x81153 + 1))))) else (some x81145)
def g95_l3 (p0 : (List (List Int))) : Nat → (List Int) → Int → Option (List Int)
  | 0, _, _ => none
  | n + 1, x81145, x81153 => g95_l3B p0 (g95_l3 p0 n) x81145 x81153
def g95_j2 (p0 : (List (List Int))) (x81007 : (List Int)) : Option (List Int) :=
  g95_l3 p0 FUEL x81007 0
def g95_l1B (p0 : (List (List Int))) (rec80906 : Int → Int → Option (List Int)) (x80872 : Int) (x80873 : Int) : Option (List Int) :=
  if x80873 < (p0.length : Int) then ((getI p0 x80873).bind fun x80926 => (if (IntKind.i64.wrap (x80872 + (x80926.length : Int))) < 0 then (none) else (rec80906 (IntKind.i64.wrap (x80872 + (x80926.length : Int))) (IntKind.i64.wrap (x80873 + 1))))) else (if x80872 < 0 then (none) else (if (IntKind.i64.wrap (x80872 - 0)) > 0 then ((appZI ([] : List Int) (IntKind.i64.wrap (x80872 - 0)) 0 1).bind fun x81219 => (if (0 : Int) ≤ 0 ∧ 0 ≤ (x81219.length : Int) then (g95_j2 p0 (List.take ((0 : Int).toNat) x81219)) else none)) else (g95_j2 p0 ([] : List Int))))
def g95_l1 (p0 : (List (List Int))) : Nat → Int → Int → Option (List Int)
  | 0, _, _ => none
  | n + 1, x80872, x80873 => g95_l1B p0 (g95_l1 p0 n) x80872 x80873
def g95 (p0 : (List (List Int))) : Option (List Int) :=
  g95_l1 p0 FUEL 0 0

-- incipit/node.own 
def g60 (p0 : (List Int)) : Option (List Int) :=
  (g95 ([([] : List Int), p0] : List (List Int))).bind fun x81284 => (some x81284)

-- incipit/node.ownPair (('agg', ('ro', 'ro')),)
def g57 (p0 : T_api_Pair) : Option T_api_Pair :=
  (g60 p0.Key).bind fun x81429 => ((g60 p0.Val).bind fun x81443 => (some (T_api_Pair.mk x81429 x81443)))

-- incipit/node.Clone (('agg', ('.', 'ro', 'ro', 'ro')),)
def g25_l3B (p0 : T_api_Node) (x83333 : (List Int)) (x84033 : (List T_api_Pair)) (rec84984 : Int → (List (List Int)) → Option T_api_Node) (x84859 : Int) (x84860 : (List (List Int))) : Option T_api_Node :=
  if x84859 < (p0.Keys.length : Int) then ((getI p0.Keys x84859).bind fun x85045 => ((g60 x85045).bind fun x85065 => ((appI x84860 ([x85065] : List (List Int)) 24).bind fun x85091 => (rec84984 (IntKind.i64.wrap (x84859 + 1)) x85091)))) else (some (T_api_Node.mk p0.Leaf x84033 x84860 x83333))
def g25_l3 (p0 : T_api_Node) (x83333 : (List Int)) (x84033 : (List T_api_Pair)) : Nat → Int → (List (List Int)) → Option T_api_Node
  | 0, _, _ => none
  | n + 1, x84859, x84860 => g25_l3B p0 x83333 x84033 (g25_l3 p0 x83333 x84033 n) x84859 x84860
def g25_l2B (p0 : T_api_Node) (x83333 : (List Int)) (rec84209 : Int → (List T_api_Pair) → Option T_api_Node) (x84032 : Int) (x84033 : (List T_api_Pair)) : Option T_api_Node :=
  if x84032 < (p0.Pairs.length : Int) then ((getI p0.Pairs x84032).bind fun x84296 => ((g57 x84296).bind fun x84331 => ((appI x84033 ([x84331] : List T_api_Pair) 48).bind fun x84368 => (rec84209 (IntKind.i64.wrap (x84032 + 1)) x84368)))) else (g25_l3 p0 x83333 x84033 FUEL 0 ([] : List (List Int)))
def g25_l2 (p0 : T_api_Node) (x83333 : (List Int)) : Nat → Int → (List T_api_Pair) → Option T_api_Node
  | 0, _, _ => none
  | n + 1, x84032, x84033 => g25_l2B p0 x83333 (g25_l2 p0 x83333 n) x84032 x84033
def g25_j1 (p0 : T_api_Node) (x83333 : (List Int)) : Option T_api_Node :=
  g25_l2 p0 x83333 FUEL 0 ([] : List T_api_Pair)
def g25 (p0 : T_api_Node) : Option T_api_Node :=
  (g59 p0.Kids).bind fun x85117 => (g25_j1 p0 x85117)

-- incipit/node.Cut (('agg', ('.', 'ro', 'ro', 'ro')),)
def g35_j3 (x89302 : Int) (x89303 : Int) (x89304 : Int) (rec89464 : Int → Int → Int → Option (T_api_Node × (List Int) × T_api_Node × Int)) (x89609 : Int) (x89618 : Bool) (x89619 : Bool) : Option (T_api_Node × (List Int) × T_api_Node × Int) :=
  if x89619 = true then (rec89464 x89609 x89304 (IntKind.i64.wrap (x89304 + 1))) else (rec89464 x89302 x89303 (IntKind.i64.wrap (x89304 + 1)))
def g35_l2B (p0 : T_api_Node) (x88355 : Int) (rec89464 : Int → Int → Int → Option (T_api_Node × (List Int) × T_api_Node × Int)) (x89302 : Int) (x89303 : Int) (x89304 : Int) : Option (T_api_Node × (List Int) × T_api_Node × Int) :=
  if x89304 < x88355 then ((g75 p0 x89304).bind fun x89544 => ((g52 x89544.1).bind fun x89595 => ((g52 x89544.2.2).bind fun x89602 => ((g76 x89595 x89602).bind fun x89609 => (if x89303 = 0 then (g35_j3 x89302 x89303 x89304 rec89464 x89609 true true) else (g35_j3 x89302 x89303 x89304 rec89464 x89609 false (decide (x89609 < x89302)))))))) else (if x89303 = 0 then (some ((T_api_Node.mk false [] [] []), [], (T_api_Node.mk false [] [] []), 4)) else ((g25 p0).bind fun x89634 => ((g75 x89634 x89303).bind fun x89674 => ((g60 x89674.2.1).bind fun x89861 => (some (x89674.1, x89861, x89674.2.2, 0))))))
def g35_l2 (p0 : T_api_Node) (x88355 : Int) : Nat → Int → Int → Int → Option (T_api_Node × (List Int) × T_api_Node × Int)
  | 0, _, _, _ => none
  | n + 1, x89302, x89303, x89304 => g35_l2B p0 x88355 (g35_l2 p0 x88355 n) x89302 x89303 x89304
def g35_j1 (p0 : T_api_Node) (x88355 : Int) : Option (T_api_Node × (List Int) × T_api_Node × Int) :=
  g35_l2 p0 x88355 FUEL 0 0 1
def g35 (p0 : T_api_Node) : Option (T_api_Node × (List Int) × T_api_Node × Int) :=
  (g50 p0).bind fun x88334 => (if ¬ (x88334 = true) then (some ((T_api_Node.mk false [] [] []), [], (T_api_Node.mk false [] [] []), 100)) else ((g66 p0).bind fun x88346 => (if ¬ (p0.Leaf = true) then (g35_j1 p0 (IntKind.i64.wrap (x88346 - 1))) else (g35_j1 p0 x88346))))

-- incipit/incipitref10.Key 
def g54 (p0 : (List Int)) : Option Bool :=
  if (p0.length : Int) ≥ 1 then (some (decide ((p0.length : Int) ≤ 25))) else (some false)

-- incipit/incipitref10.Child 
def g55 (p0 : Int) : Option Bool :=
  if p0 ≥ 2 then (some (decide (p0 < 2048))) else (some false)

-- incipit/incipitref10.May (('agg', ('.', 'ro', 'ro', 'ro')),)
def g18_j3 (x105493 : Int) (rec106006 : Int → Option Bool) (x106382 : (List T_api_Pair)) (x106387 : (List Int)) (x106392 : Bool) (x106393 : Bool) (x106394 : Bool) (x106395 : Bool) (x106396 : Bool) (x106397 : Bool) : Option Bool :=
  if x106397 = true then (some false) else (rec106006 (IntKind.i64.wrap (x105493 + 1)))
def g18_l2B (p0 : T_api_Node) (rec106006 : Int → Option Bool) (x105493 : Int) : Option Bool :=
  if x105493 < (p0.Pairs.length : Int) then ((getI p0.Pairs x105493).bind fun x106409 => ((g54 x106409.Key).bind fun x106434 => (if ¬ (x106434 = true) then (g18_j3 x105493 rec106006 p0.Pairs x106409.Key x106434 (decide (¬ (x106434 = true))) true true true true) else ((getI p0.Pairs x105493).bind fun x106442 => (if (x106442.Val.length : Int) > 24 then (g18_j3 x105493 rec106006 p0.Pairs x106409.Key x106434 (decide (¬ (x106434 = true))) false (decide ((x106442.Val.length : Int) > 24)) true true) else (if x105493 > 0 then ((getI p0.Pairs (IntKind.i64.wrap (x105493 - 1))).bind fun x106469 => ((getI p0.Pairs x105493).bind fun x106494 => (g18_j3 x105493 rec106006 p0.Pairs x106409.Key x106434 (decide (¬ (x106434 = true))) false (decide ((x106442.Val.length : Int) > 24)) false (!(Op.bytesLess (strOfNums x106469.Key).toList (strOfNums x106494.Key).toList))))) else (g18_j3 x105493 rec106006 p0.Pairs x106409.Key x106434 (decide (¬ (x106434 = true))) false (decide ((x106442.Val.length : Int) > 24)) false false))))))) else (some true)
def g18_l2 (p0 : T_api_Node) : Nat → Int → Option Bool
  | 0, _ => none
  | n + 1, x105493 => g18_l2B p0 (g18_l2 p0 n) x105493
def g18_j1 (p0 : T_api_Node) (x102907 : Bool) : Option Bool :=
  if x102907 = true then (some false) else (g18_l2 p0 FUEL 0)
def g18_l6B (p0 : T_api_Node) (rec108454 : Int → Option Bool) (x108417 : Int) : Option Bool :=
  if x108417 < (p0.Kids.length : Int) then ((getI p0.Kids x108417).bind fun x108475 => ((g55 x108475).bind fun x108483 => (if ¬ (x108483 = true) then (some false) else (rec108454 (IntKind.i64.wrap (x108417 + 1)))))) else (some true)
def g18_l6 (p0 : T_api_Node) : Nat → Int → Option Bool
  | 0, _ => none
  | n + 1, x108417 => g18_l6B p0 (g18_l6 p0 n) x108417
def g18_l5B (p0 : T_api_Node) (rec108022 : Int → Option Bool) (x107775 : Int) : Option Bool :=
  if x107775 < (p0.Keys.length : Int) then ((getI p0.Keys x107775).bind fun x108214 => ((g54 x108214).bind fun x108229 => (if ¬ (x108229 = true) then (some false) else (if x107775 > 0 then ((getI p0.Keys (IntKind.i64.wrap (x107775 - 1))).bind fun x108238 => ((getI p0.Keys x107775).bind fun x108253 => (if (!(Op.bytesLess (strOfNums x108238).toList (strOfNums x108253).toList)) = true then (some false) else (rec108022 (IntKind.i64.wrap (x107775 + 1)))))) else (rec108022 (IntKind.i64.wrap (x107775 + 1))))))) else (g18_l6 p0 FUEL 0)
def g18_l5 (p0 : T_api_Node) : Nat → Int → Option Bool
  | 0, _ => none
  | n + 1, x107775 => g18_l5B p0 (g18_l5 p0 n) x107775
def g18_j4 (p0 : T_api_Node) (x106541 : Bool) : Option Bool :=
  if x106541 = true then (some false) else (g18_l5 p0 FUEL 0)
def g18 (p0 : T_api_Node) : Option Bool :=
  if p0.Leaf = true then ((some (IntKind.i64.wrap ((p0.Keys.length : Int) + (p0.Kids.length : Int)))).bind fun x106523 => (if x106523 > 0 then (g18_j1 p0 true) else (g18_j1 p0 (decide ((p0.Pairs.length : Int) > 255))))) else (if (p0.Pairs.length : Int) > 0 then (g18_j4 p0 true) else (if (p0.Keys.length : Int) < 1 then (g18_j4 p0 true) else (if (p0.Keys.length : Int) > 255 then (g18_j4 p0 true) else (g18_j4 p0 (decide ((p0.Kids.length : Int) ≠ (IntKind.i64.wrap ((p0.Keys.length : Int) + 1))))))))

-- incipit/incipitref10.At (('agg', ('.', 'ro', 'ro', 'ro')), '.')
def g77 (p0 : T_api_Node) (p1 : Int) : Option (T_api_Node × (List Int) × T_api_Node) :=
  if p0.Leaf = true then ((cutI p0.Pairs 0 p1).bind fun y110217 => ((getI p0.Pairs p1).bind fun x110227 => ((cutI p0.Pairs p1 (p0.Pairs.length : Int)).bind fun y110252 => (some ((T_api_Node.mk true y110217 [] []), x110227.Key, (T_api_Node.mk true y110252 [] [])))))) else ((cutI p0.Keys 0 p1).bind fun y110593 => ((cutI p0.Kids 0 (IntKind.i64.wrap (p1 + 1))).bind fun y110603 => ((getI p0.Keys p1).bind fun x110613 => ((cutI p0.Keys (IntKind.i64.wrap (p1 + 1)) (p0.Keys.length : Int)).bind fun y110628 => ((cutI p0.Kids (IntKind.i64.wrap (p1 + 1)) (p0.Kids.length : Int)).bind fun y110638 => (some ((T_api_Node.mk false [] y110593 y110603), x110613, (T_api_Node.mk false [] y110628 y110638))))))))

-- incipit/incipitref10.lay (('agg', ('.', 'ro', 'ro', 'ro')),)
def g61_l1B (p0 : T_api_Node) (rec123242 : (List Int) → Int → Option (List Int)) (x122841 : (List Int)) (x122849 : Int) : Option (List Int) :=
  if x122849 < (p0.Pairs.length : Int) then ((getI p0.Pairs x122849).bind fun x123441 => ((appI x122841 ([IntKind.u8.wrap (x123441.Key.length : Int)] : List Int) 1).bind fun x123561 => ((appI x123561 x123441.Key 1).bind fun x123572 => ((appI x123572 ([IntKind.u8.wrap (x123441.Val.length : Int)] : List Int) 1).bind fun x123616 => ((appI x123616 x123441.Val 1).bind fun x123627 => (rec123242 x123627 (IntKind.i64.wrap (x122849 + 1)))))))) else (some x122841)
def g61_l1 (p0 : T_api_Node) : Nat → (List Int) → Int → Option (List Int)
  | 0, _, _ => none
  | n + 1, x122841, x122849 => g61_l1B p0 (g61_l1 p0 n) x122841 x122849
def g61_l2B (p0 : T_api_Node) (rec126407 : (List Int) → Int → Option (List Int)) (x125854 : (List Int)) (x125862 : Int) : Option (List Int) :=
  if x125862 < (p0.Keys.length : Int) then ((getI p0.Keys x125862).bind fun x126855 => ((getI p0.Keys x125862).bind fun x126870 => ((appI x125854 ([IntKind.u8.wrap (x126855.length : Int)] : List Int) 1).bind fun x126893 => ((appI x126893 x126870 1).bind fun x126904 => ((getI p0.Kids (IntKind.i64.wrap (x125862 + 1))).bind fun x126918 => ((getI p0.Kids (IntKind.i64.wrap (x125862 + 1))).bind fun x126927 => ((appI x126904 ([IntKind.u8.wrap (IntKind.i64.wrap (Int.tdiv x126918 256)), IntKind.u8.wrap (Int.tmod x126927 256)] : List Int) 1).bind fun x126944 => (rec126407 x126944 (IntKind.i64.wrap (x125862 + 1)))))))))) else (some x125854)
def g61_l2 (p0 : T_api_Node) : Nat → (List Int) → Int → Option (List Int)
  | 0, _, _ => none
  | n + 1, x125854, x125862 => g61_l2B p0 (g61_l2 p0 n) x125854 x125862
def g61 (p0 : T_api_Node) : Option (List Int) :=
  if p0.Leaf = true then (g61_l1 p0 FUEL ([IntKind.u8.wrap (p0.Pairs.length : Int)] : List Int) 0) else ((getI p0.Kids 0).bind fun x123643 => ((getI p0.Kids 0).bind fun x123652 => (g61_l2 p0 FUEL ([IntKind.u8.wrap (p0.Keys.length : Int), IntKind.u8.wrap (IntKind.i64.wrap (Int.tdiv x123643 256)), IntKind.u8.wrap (Int.tmod x123652 256)] : List Int) 0)))

-- incipit/incipitref10.Size (('agg', ('.', 'ro', 'ro', 'ro')),)
def g28 (p0 : T_api_Node) : Option Int :=
  (g18 p0).bind fun x126998 => (if ¬ (x126998 = true) then (some 0) else ((g61 p0).bind fun x127006 => (some (x127006.length : Int))))

-- incipit/incipitref10.own 
def g58 (p0 : (List Int)) : Option (List Int) :=
  (appI ([] : List Int) p0 1).bind fun x128481 => (some x128481)

-- incipit/incipitref10.Clone (('agg', ('.', 'ro', 'ro', 'ro')),)
def g24_l3B (p0 : T_api_Node) (x130623 : (List Int)) (x131547 : (List T_api_Pair)) (rec132620 : Int → (List (List Int)) → Option T_api_Node) (x132493 : Int) (x132494 : (List (List Int))) : Option T_api_Node :=
  if x132493 < (p0.Keys.length : Int) then ((getI p0.Keys x132493).bind fun x132688 => ((g58 x132688).bind fun x132703 => ((appI x132494 ([x132703] : List (List Int)) 24).bind fun x132729 => (rec132620 (IntKind.i64.wrap (x132493 + 1)) x132729)))) else (some (T_api_Node.mk p0.Leaf x131547 x132494 x130623))
def g24_l3 (p0 : T_api_Node) (x130623 : (List Int)) (x131547 : (List T_api_Pair)) : Nat → Int → (List (List Int)) → Option T_api_Node
  | 0, _, _ => none
  | n + 1, x132493, x132494 => g24_l3B p0 x130623 x131547 (g24_l3 p0 x130623 x131547 n) x132493 x132494
def g24_l2B (p0 : T_api_Node) (x130623 : (List Int)) (rec131779 : Int → (List T_api_Pair) → Option T_api_Node) (x131546 : Int) (x131547 : (List T_api_Pair)) : Option T_api_Node :=
  if x131546 < (p0.Pairs.length : Int) then ((getI p0.Pairs x131546).bind fun x131900 => ((getI p0.Pairs x131546).bind fun x131925 => ((g58 x131900.Key).bind fun x131950 => ((g58 x131925.Val).bind fun x131964 => ((appI x131547 ([(T_api_Pair.mk x131950 x131964)] : List T_api_Pair) 48).bind fun x131994 => (rec131779 (IntKind.i64.wrap (x131546 + 1)) x131994)))))) else (g24_l3 p0 x130623 x131547 FUEL 0 ([] : List (List Int)))
def g24_l2 (p0 : T_api_Node) (x130623 : (List Int)) : Nat → Int → (List T_api_Pair) → Option T_api_Node
  | 0, _, _ => none
  | n + 1, x131546, x131547 => g24_l2B p0 x130623 (g24_l2 p0 x130623 n) x131546 x131547
def g24_j1 (p0 : T_api_Node) (x130623 : (List Int)) : Option T_api_Node :=
  g24_l2 p0 x130623 FUEL 0 ([] : List T_api_Pair)
def g24 (p0 : T_api_Node) : Option T_api_Node :=
  (appI ([] : List Int) p0.Kids 8).bind fun x132759 => (g24_j1 p0 x132759)

-- incipit/incipitref10.Cut (('agg', ('.', 'ro', 'ro', 'ro')),)
def g36_j4 (x133998 : Int) (x133999 : Int) (x134000 : Int) (rec134166 : Int → Int → Int → Option (T_api_Node × (List Int) × T_api_Node × Int)) (x134318 : Int) (x134321 : Bool) (x134322 : Bool) : Option (T_api_Node × (List Int) × T_api_Node × Int) :=
  if x134322 = true then (rec134166 x134000 x134318 (IntKind.i64.wrap (x134000 + 1))) else (rec134166 x133998 x133999 (IntKind.i64.wrap (x134000 + 1)))
def g36_j3 (x133998 : Int) (x133999 : Int) (x134000 : Int) (rec134166 : Int → Int → Int → Option (T_api_Node × (List Int) × T_api_Node × Int)) (x134318 : Int) : Option (T_api_Node × (List Int) × T_api_Node × Int) :=
  if x133998 = 0 then (g36_j4 x133998 x133999 x134000 rec134166 x134318 true true) else (g36_j4 x133998 x133999 x134000 rec134166 x134318 false (decide (x134318 < x133999)))
def g36_l2B (p0 : T_api_Node) (x133015 : Int) (rec134166 : Int → Int → Int → Option (T_api_Node × (List Int) × T_api_Node × Int)) (x133998 : Int) (x133999 : Int) (x134000 : Int) : Option (T_api_Node × (List Int) × T_api_Node × Int) :=
  if x134000 < x133015 then ((g77 p0 x134000).bind fun x134249 => ((g28 x134249.1).bind fun x134300 => ((g28 x134249.2.2).bind fun x134307 => (if (IntKind.i64.wrap (x134300 - x134307)) < 0 then ((some (IntKind.i64.wrap (0 - (IntKind.i64.wrap (x134300 - x134307))))).bind fun x134330 => (g36_j3 x133998 x133999 x134000 rec134166 x134330)) else (g36_j3 x133998 x133999 x134000 rec134166 (IntKind.i64.wrap (x134300 - x134307))))))) else (if x133998 = 0 then (some ((T_api_Node.mk false ([] : List T_api_Pair) ([] : List (List Int)) ([] : List Int)), ([] : List Int), (T_api_Node.mk false ([] : List T_api_Pair) ([] : List (List Int)) ([] : List Int)), 4)) else ((g77 p0 x133998).bind fun x134356 => ((g24 x134356.1).bind fun x134487 => ((g58 x134356.2.1).bind fun x134515 => ((g24 x134356.2.2).bind fun x134529 => (some (x134487, x134515, x134529, 0)))))))
def g36_l2 (p0 : T_api_Node) (x133015 : Int) : Nat → Int → Int → Int → Option (T_api_Node × (List Int) × T_api_Node × Int)
  | 0, _, _, _ => none
  | n + 1, x133998, x133999, x134000 => g36_l2B p0 x133015 (g36_l2 p0 x133015 n) x133998 x133999 x134000
def g36_j1 (p0 : T_api_Node) (x133015 : Int) : Option (T_api_Node × (List Int) × T_api_Node × Int) :=
  g36_l2 p0 x133015 FUEL 0 0 1
def g36 (p0 : T_api_Node) : Option (T_api_Node × (List Int) × T_api_Node × Int) :=
  (g18 p0).bind fun x132994 => (if ¬ (x132994 = true) then (some ((T_api_Node.mk false ([] : List T_api_Pair) ([] : List (List Int)) ([] : List Int)), ([] : List Int), (T_api_Node.mk false ([] : List T_api_Pair) ([] : List (List Int)) ([] : List Int)), 100)) else (if ¬ (p0.Leaf = true) then (g36_j1 p0 (IntKind.i64.wrap ((p0.Keys.length : Int) - 1))) else (g36_j1 p0 (p0.Pairs.length : Int))))

-- incipit/node.behind (('agg', ('.', 'ro', 'ro', 'ro')),)
def g79 (p0 : T_api_Node) : Option (T_api_Node × Int) :=
  (g50 p0).bind fun x136304 => (if ¬ (x136304 = true) then (some ((T_api_Node.mk false [] [] []), 100)) else (some (p0, 0)))

-- incipit/node.Join (('agg', ('.', 'ro', 'ro', 'ro')), 'ro', ('agg', ('.', 'ro', 'ro', 'ro')))
def g37_j3 (x138314 : (List Int)) (x138322 : Bool) (x138339 : (List Int)) (x138352 : (List T_api_Pair)) (x139078 : (List (List Int))) : Option (T_api_Node × Int) :=
  (appI x138339 x138314 8).bind fun x139091 => ((g50 (T_api_Node.mk x138322 x138352 x139078 x139091)).bind fun x139241 => (if ¬ (x139241 = true) then (some ((T_api_Node.mk false ([] : List T_api_Pair) ([] : List (List Int)) ([] : List Int)), 100)) else (some ((T_api_Node.mk x138322 x138352 x139078 x139091), 0))))
def g37_j2 (p1 : (List Int)) (x138297 : Bool) (x138298 : (List T_api_Pair)) (x138306 : (List (List Int))) (x138314 : (List Int)) (x138322 : Bool) (x138323 : (List T_api_Pair)) (x138331 : (List (List Int))) (x138339 : (List Int)) : Option (T_api_Node × Int) :=
  (appI x138323 x138298 48).bind fun x138352 => (if ¬ (x138322 = true) then ((g60 p1).bind fun x139363 => ((appI x138331 ([x139363] : List (List Int)) 24).bind fun x139403 => ((appI x139403 x138306 24).bind fun x139414 => (g37_j3 x138314 x138322 x138339 x138352 x139414)))) else ((g50 (T_api_Node.mk x138322 x138352 x138331 x138339)).bind fun x139639 => (if ¬ (x139639 = true) then (some ((T_api_Node.mk false ([] : List T_api_Pair) ([] : List (List Int)) ([] : List Int)), 100)) else (some ((T_api_Node.mk x138322 x138352 x138331 x138339), 0)))))
def g37_j1 (p0 : T_api_Node) (p1 : (List Int)) (p2 : T_api_Node) : Option (T_api_Node × Int) :=
  (g25 p0).bind fun x139671 => ((g25 p2).bind fun x139733 => (g37_j2 p1 x139733.Leaf x139733.Pairs x139733.Keys x139733.Kids x139671.Leaf x139671.Pairs x139671.Keys x139671.Kids))
def g37_j4 (p0 : T_api_Node) (p1 : (List Int)) (p2 : T_api_Node) (x140304 : Bool) : Option (T_api_Node × Int) :=
  if x140304 = true then (some ((T_api_Node.mk false ([] : List T_api_Pair) ([] : List (List Int)) ([] : List Int)), 100)) else (if ¬ (p0.Leaf = true) then ((g78 p1).bind fun x140322 => (if ¬ (x140322 = true) then (some ((T_api_Node.mk false ([] : List T_api_Pair) ([] : List (List Int)) ([] : List Int)), 1)) else (g37_j1 p0 p1 p2))) else (g37_j1 p0 p1 p2))
def g37 (p0 : T_api_Node) (p1 : (List Int)) (p2 : T_api_Node) : Option (T_api_Node × Int) :=
  (g50 p0).bind fun x140337 => (if ¬ (x140337 = true) then (g37_j4 p0 p1 p2 true) else ((g50 p2).bind fun x140345 => (if ¬ (x140345 = true) then (g37_j4 p0 p1 p2 true) else (g37_j4 p0 p1 p2 (decide (p0.Leaf ≠ p2.Leaf))))))

-- incipit/incipitref10.good (('agg', ('.', 'ro', 'ro', 'ro')),)
def g80 (p0 : T_api_Node) : Option (T_api_Node × Int) :=
  (g18 p0).bind fun x140747 => (if ¬ (x140747 = true) then (some ((T_api_Node.mk false ([] : List T_api_Pair) ([] : List (List Int)) ([] : List Int)), 100)) else ((g24 p0).bind fun x140760 => (some (x140760, 0))))

-- incipit/incipitref10.Join (('agg', ('.', 'ro', 'ro', 'ro')), 'ro', ('agg', ('.', 'ro', 'ro', 'ro')))
def g38_j2 (x193466 : Bool) (x193467 : (List T_api_Pair)) (x193475 : (List Int)) (x193483 : Int) : Option (T_api_Node × Int) :=
  some ((T_api_Node.mk x193466 x193467 ([] : List (List Int)) x193475), x193483)
def g38_l5B (p0 : T_api_Node) (x196960 : (List Int)) (x199156 : (List T_api_Pair)) (rec200252 : Option (T_api_Node × Int)) : Option (T_api_Node × Int) :=
  g38_j2 p0.Leaf x199156 x196960 0
def g38_l5 (p0 : T_api_Node) (x196960 : (List Int)) (x199156 : (List T_api_Pair)) : Nat → Option (T_api_Node × Int)
  | 0 => none
  | n + 1 => g38_l5B p0 x196960 x199156 (g38_l5 p0 x196960 x199156 n)
def g38_l4B (p0 : T_api_Node) (x186619 : (List T_api_Pair)) (x196960 : (List Int)) (rec199704 : Int → (List T_api_Pair) → Option (T_api_Node × Int)) (x199155 : Int) (x199156 : (List T_api_Pair)) : Option (T_api_Node × Int) :=
  if x199155 < (x186619.length : Int) then ((getI x186619 x199155).bind fun x199983 => ((getI x186619 x199155).bind fun x200007 => ((g58 x199983.Key).bind fun x200069 => ((g58 x200007.Val).bind fun x200097 => ((appI x199156 ([(T_api_Pair.mk x200069 x200097)] : List T_api_Pair) 48).bind fun x200127 => (rec199704 (IntKind.i64.wrap (x199155 + 1)) x200127)))))) else (g38_l5 p0 x196960 x199156 FUEL)
def g38_l4 (p0 : T_api_Node) (x186619 : (List T_api_Pair)) (x196960 : (List Int)) : Nat → Int → (List T_api_Pair) → Option (T_api_Node × Int)
  | 0, _, _ => none
  | n + 1, x199155, x199156 => g38_l4B p0 x186619 x196960 (g38_l4 p0 x186619 x196960 n) x199155 x199156
def g38_j3 (p0 : T_api_Node) (x186619 : (List T_api_Pair)) (x196960 : (List Int)) : Option (T_api_Node × Int) :=
  g38_l4 p0 x186619 x196960 FUEL 0 ([] : List T_api_Pair)
def g38_l9B (p0 : T_api_Node) (x200472 : (List (List Int))) (x203619 : (List Int)) (rec204335 : Int → (List (List Int)) → Option (T_api_Node × Int)) (x204192 : Int) (x204193 : (List (List Int))) : Option (T_api_Node × Int) :=
  if x204192 < (x200472.length : Int) then ((getI x200472 x204192).bind fun x204411 => ((g58 x204411).bind fun x204434 => ((appI x204193 ([x204434] : List (List Int)) 24).bind fun x204460 => (rec204335 (IntKind.i64.wrap (x204192 + 1)) x204460)))) else (some ((T_api_Node.mk p0.Leaf ([] : List T_api_Pair) x204193 x203619), 0))
def g38_l9 (p0 : T_api_Node) (x200472 : (List (List Int))) (x203619 : (List Int)) : Nat → Int → (List (List Int)) → Option (T_api_Node × Int)
  | 0, _, _ => none
  | n + 1, x204192, x204193 => g38_l9B p0 x200472 x203619 (g38_l9 p0 x200472 x203619 n) x204192 x204193
def g38_l8B (p0 : T_api_Node) (x200472 : (List (List Int))) (x203619 : (List Int)) (rec203636 : Option (T_api_Node × Int)) : Option (T_api_Node × Int) :=
  g38_l9 p0 x200472 x203619 FUEL 0 ([] : List (List Int))
def g38_l8 (p0 : T_api_Node) (x200472 : (List (List Int))) (x203619 : (List Int)) : Nat → Option (T_api_Node × Int)
  | 0 => none
  | n + 1 => g38_l8B p0 x200472 x203619 (g38_l8 p0 x200472 x203619 n)
def g38_j7 (p0 : T_api_Node) (x200472 : (List (List Int))) (x203619 : (List Int)) : Option (T_api_Node × Int) :=
  g38_l8 p0 x200472 x203619 FUEL
def g38_j6 (p0 : T_api_Node) (p2 : T_api_Node) (x200472 : (List (List Int))) : Option (T_api_Node × Int) :=
  (appI ([] : List Int) p0.Kids 8).bind fun x200585 => ((appI x200585 p2.Kids 8).bind fun x200596 => ((g18 (T_api_Node.mk p0.Leaf [] x200472 x200596)).bind fun x202609 => (if ¬ (x202609 = true) then (some ((T_api_Node.mk false ([] : List T_api_Pair) ([] : List (List Int)) ([] : List Int)), 100)) else ((appI ([] : List Int) x200596 8).bind fun x204494 => (g38_j7 p0 x200472 x204494)))))
def g38_j1 (p0 : T_api_Node) (p1 : (List Int)) (p2 : T_api_Node) (x172721 : Bool) : Option (T_api_Node × Int) :=
  if x172721 = true then (some ((T_api_Node.mk false ([] : List T_api_Pair) ([] : List (List Int)) ([] : List Int)), 100)) else (if p0.Leaf = true then ((appI ([] : List T_api_Pair) p0.Pairs 48).bind fun x186608 => ((appI x186608 p2.Pairs 48).bind fun x186619 => ((g18 (T_api_Node.mk p0.Leaf x186619 [] [])).bind fun x193515 => (if ¬ (x193515 = true) then (g38_j2 false ([] : List T_api_Pair) ([] : List Int) 100) else ((appI ([] : List Int) ([] : List Int) 8).bind fun x200276 => (g38_j3 p0 x186619 x200276)))))) else ((g54 p1).bind fun x200304 => (if ¬ (x200304 = true) then (some ((T_api_Node.mk false ([] : List T_api_Pair) ([] : List (List Int)) ([] : List Int)), 1)) else ((appI ([] : List (List Int)) p0.Keys 24).bind fun x204573 => ((appI x204573 ([p1] : List (List Int)) 24).bind fun x204584 => ((appI x204584 p2.Keys 24).bind fun x204595 => (g38_j6 p0 p2 x204595)))))))
def g38 (p0 : T_api_Node) (p1 : (List Int)) (p2 : T_api_Node) : Option (T_api_Node × Int) :=
  (g18 p0).bind fun x204667 => (if ¬ (x204667 = true) then (g38_j1 p0 p1 p2 true) else ((g18 p2).bind fun x204675 => (if ¬ (x204675 = true) then (g38_j1 p0 p1 p2 true) else (g38_j1 p0 p1 p2 (decide (p0.Leaf ≠ p2.Leaf))))))

-- incipit/incipitref10.Same (('agg', ('.', 'ro', 'ro', 'ro')), ('agg', ('.', 'ro', 'ro', 'ro')))
def g20_l4B (p0 : T_api_Node) (p1 : T_api_Node) (rec211627 : Int → Option Bool) (x211572 : Int) : Option Bool :=
  if x211572 < (p0.Kids.length : Int) then ((getI p0.Kids x211572).bind fun x211663 => ((getI p1.Kids x211572).bind fun x211672 => (if x211663 ≠ x211672 then (some false) else (rec211627 (IntKind.i64.wrap (x211572 + 1)))))) else (some true)
def g20_l4 (p0 : T_api_Node) (p1 : T_api_Node) : Nat → Int → Option Bool
  | 0, _ => none
  | n + 1, x211572 => g20_l4B p0 p1 (g20_l4 p0 p1 n) x211572
def g20_l3B (p0 : T_api_Node) (p1 : T_api_Node) (rec211273 : Int → Option Bool) (x211194 : Int) : Option Bool :=
  if x211194 < (p0.Keys.length : Int) then ((getI p0.Keys x211194).bind fun x211321 => ((getI p1.Keys x211194).bind fun x211336 => (if (strOfNums x211321).toList ≠ (strOfNums x211336).toList then (some false) else (rec211273 (IntKind.i64.wrap (x211194 + 1)))))) else (g20_l4 p0 p1 FUEL 0)
def g20_l3 (p0 : T_api_Node) (p1 : T_api_Node) : Nat → Int → Option Bool
  | 0, _ => none
  | n + 1, x211194 => g20_l3B p0 p1 (g20_l3 p0 p1 n) x211194
def g20_l2B (p0 : T_api_Node) (p1 : T_api_Node) (rec210443 : Int → Option Bool) (x210008 : Int) : Option Bool :=
  if x210008 < (p0.Pairs.length : Int) then ((getI p0.Pairs x210008).bind fun x210776 => ((getI p1.Pairs x210008).bind fun x210801 => (if (strOfNums x210776.Key).toList ≠ (strOfNums x210801.Key).toList then (some false) else ((getI p0.Pairs x210008).bind fun x210827 => ((getI p1.Pairs x210008).bind fun x210852 => (if (strOfNums x210827.Val).toList ≠ (strOfNums x210852.Val).toList then (some false) else (rec210443 (IntKind.i64.wrap (x210008 + 1))))))))) else (g20_l3 p0 p1 FUEL 0)
def g20_l2 (p0 : T_api_Node) (p1 : T_api_Node) : Nat → Int → Option Bool
  | 0, _ => none
  | n + 1, x210008 => g20_l2B p0 p1 (g20_l2 p0 p1 n) x210008
def g20_j1 (p0 : T_api_Node) (p1 : T_api_Node) (x208266 : Bool) : Option Bool :=
  if x208266 = true then (some false) else (g20_l2 p0 p1 FUEL 0)
def g20 (p0 : T_api_Node) (p1 : T_api_Node) : Option Bool :=
  if p0.Leaf ≠ p1.Leaf then (g20_j1 p0 p1 true) else (if (p0.Pairs.length : Int) ≠ (p1.Pairs.length : Int) then (g20_j1 p0 p1 true) else (if (p0.Keys.length : Int) ≠ (p1.Keys.length : Int) then (g20_j1 p0 p1 true) else (g20_j1 p0 p1 (decide ((p0.Kids.length : Int) ≠ (p1.Kids.length : Int))))))

-- incipit/incipitlaw10.NodeCuts (('agg', ('.', 'ro', 'ro', 'ro')), ('agg', ('.', 'ro', 'ro', 'ro')), ('agg', ('.', 'ro', 'ro', 'ro')), 'ro')
def g7_j2 (x212221 : Bool) : Option Bool :=
  some x212221
def g7_j1 (p0 : T_api_Node) (p1 : T_api_Node) (p2 : T_api_Node) (p3 : (List Int)) (x211947 : Bool) : Option Bool :=
  if x211947 = true then ((g11).bind fun x211951 => (some x211951)) else ((g35 p0).bind fun x211958 => ((g36 p0).bind fun x212003 => ((g37 p1 p3 p2).bind fun x212097 => ((g38 p1 p3 p2).bind fun x212142 => ((g20 x211958.1 x212003.1).bind fun x212226 => (if x212226 = true then ((g34 x211958.2.1 x212003.2.1).bind fun x212234 => (if x212234 = true then ((g20 x211958.2.2.1 x212003.2.2.1).bind fun x212242 => (if x212242 = true then (if x211958.2.2.2 = x212003.2.2.2 then ((g20 x212097.1 x212142.1).bind fun x212251 => (if x212251 = true then (g7_j2 (decide (x212097.2 = x212142.2))) else (g7_j2 false))) else (g7_j2 false)) else (g7_j2 false))) else (g7_j2 false))) else (g7_j2 false)))))))
def g7 (p0 : T_api_Node) (p1 : T_api_Node) (p2 : T_api_Node) (p3 : (List Int)) : Option Bool :=
  (g11).bind fun x212261 => (if ¬ (x212261 = true) then (g7_j1 p0 p1 p2 p3 true) else ((g12 ([p0, p1, p2] : List T_api_Node)).bind fun x212278 => (if ¬ (x212278 = true) then (g7_j1 p0 p1 p2 p3 true) else (g7_j1 p0 p1 p2 p3 (decide ((p3.length : Int) > 300))))))

end Go.Proofs.Ytefjbhogpgihaaa
