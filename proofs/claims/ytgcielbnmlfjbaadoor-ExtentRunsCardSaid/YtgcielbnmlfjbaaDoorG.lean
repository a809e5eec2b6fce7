/- PRINTED BY sy.py: what each Go function computes, in plain Lean. -/
import Derived.Test.YtgcielbnmlfjbaaDoorSXs
namespace Go.Proofs.YtgcielbnmlfjbaaDoor
open Go Go.SX Go.RowKit
set_option maxRecDepth 100000
set_option linter.unusedVariables false
def TAB0 : List Int := [0, 1, 56, 2, 57, 49, 28, 3, 61, 58, 42, 50, 38, 29, 17, 4, 62, 47, 59, 36, 45, 43, 51, 22, 53, 39, 33, 30, 24, 18, 12, 5, 63, 55, 48, 27, 60, 41, 37, 16, 46, 35, 44, 21, 52, 32, 23, 11, 54, 26, 40, 15, 34, 20, 31, 10, 25, 14, 19, 9, 13, 8, 7, 6]
structure T_extent_Set where
  n : Int
  w : (List Int)
  deriving DecidableEq
-- incipit/extent.New 
def g19_j1 (p0 : Int) (x42 : Bool) : Option ((Option T_extent_Set) × Int) :=
  if x42 = true then (some (none, 1)) else ((some (IntKind.i64.wrap (Int.tdiv (IntKind.i64.wrap ((IntKind.i64.wrap (p0 + 64)) - 1)) 64))).bind fun x44 => ((repI x44 0 8).bind fun x46 => (some ((some (T_extent_Set.mk p0 x46)), 0))))
def g19 (p0 : Int) : Option ((Option T_extent_Set) × Int) :=
  if p0 < 1 then (g19_j1 p0 true) else (g19_j1 p0 (decide (p0 > 2048)))

-- (*incipit/extent.Set).none (('obj', 53, ('.', 'own')),)
def g34 (p0 : T_extent_Set) : Option Bool :=
  some (decide (p0.n = 0))

-- (*incipit/extent.Set).may (('obj', 53, ('.', 'own')), '.')
def g32 (p0 : T_extent_Set) (p1 : Int) : Option Int :=
  (g34 p0).bind fun x182 => (if x182 = true then (some 2) else (if p1 < 0 then (some 1) else (if p1 ≥ p0.n then (some 1) else (some 0))))

-- incipit/extent.bit 
def g33 (p0 : Int) : Option Int :=
  if 0 ≤ (IntKind.u64.wrap (Int.tmod p0 64)) then (some (shlI .u64 1 (IntKind.u64.wrap (Int.tmod p0 64)))) else none

-- (*incipit/extent.Set).Has (('obj', 53, ('.', 'own')), '.')
def g13 (p0 : T_extent_Set) (p1 : Int) : Option Bool :=
  (g32 p0 p1).bind fun x316 => (if x316 = 0 then ((getI p0.w (IntKind.i64.wrap (Int.tdiv p1 64))).bind fun x324 => ((g33 p1).bind fun x332 => (some (decide ((andI .u64 x324 x332) ≠ 0))))) else (some false))

-- (*incipit/extent.Set).Add (('obj', 53, ('.', 'own')), '.')
def g22 (p0 : T_extent_Set) (p1 : Int) : Option (Int × T_extent_Set) :=
  (g32 p0 p1).bind fun x406 => (if x406 ≠ 0 then (some (x406, p0)) else ((g13 p0 p1).bind fun x422 => (if x422 = true then (some (70, p0)) else ((getI p0.w (IntKind.i64.wrap (Int.tdiv p1 64))).bind fun x435 => ((g33 p1).bind fun x443 => ((getI p0.w (IntKind.i64.wrap (Int.tdiv p1 64))).bind fun x450 => ((setI p0.w (IntKind.i64.wrap (Int.tdiv p1 64)) (orI .u64 x435 x443)).bind fun y457 => (some (0, (T_extent_Set.mk p0.n y457))))))))))

-- incipit/incipitlaw07.Of 
def g10_j1  : Option (Option T_extent_Set) :=
  some none
def g10_l3B (p1 : (List Int)) (rec833 : Int → Int → (List Int) → Option (Option T_extent_Set)) (x797 : Int) (x798 : Int) (x799 : (List Int)) : Option (Option T_extent_Set) :=
  if x797 < (p1.length : Int) then ((getI p1 x797).bind fun x838 => ((g22 (T_extent_Set.mk x798 x799) x838).bind fun x846 => (rec833 (IntKind.i64.wrap (x797 + 1)) x846.2.n x846.2.w))) else (some (some (T_extent_Set.mk x798 x799)))
def g10_l3 (p1 : (List Int)) : Nat → Int → Int → (List Int) → Option (Option T_extent_Set)
  | 0, _, _, _ => none
  | n + 1, x797, x798, x799 => g10_l3B p1 (g10_l3 p1 n) x797 x798 x799
def g10_j2 (p1 : (List Int)) (x658 : T_extent_Set) (x678 : Bool) : Option (Option T_extent_Set) :=
  if x678 = true then (some none) else (g10_l3 p1 FUEL 0 x658.n x658.w)
def g10 (p0 : Int) (p1 : (List Int)) : Option (Option T_extent_Set) :=
  (g19 p0).bind fun x650 => (optC x650.1 (if x650.2 ≠ 0 then (g10_j1) else (g10_j1)) (fun x658 => (if x650.2 ≠ 0 then (g10_j2 p1 x658 true) else (g10_j2 p1 x658 false))))

-- slices.Clone[[]uint64,uint64] 
def g37 (p0 : (List Int)) : Option (List Int) :=
  (appI ([] : List Int) p0 8).bind fun x1015 => (some x1015)

-- (*incipit/extent.Set).Clone (('obj', 53, ('.', 'own')),)
def g21 (p0 : T_extent_Set) : Option (Option T_extent_Set) :=
  (g34 p0).bind fun x1070 => (if x1070 = true then (some none) else ((g37 p0.w).bind fun x1087 => (some (some (T_extent_Set.mk p0.n x1087)))))

-- (*incipit/extent.Set).Not (('obj', 53, ('.', 'own')),)
def g16_l1B (x1420 : T_extent_Set) (rec1602 : Int → (List Int) → Option (Option T_extent_Set)) (x1565 : Int) (x1566 : (List Int)) : Option (Option T_extent_Set) :=
  if x1565 < (x1420.w.length : Int) then ((getI x1566 x1565).bind fun x1612 => ((getI x1566 x1565).bind fun x1620 => ((setI x1566 x1565 (cplI .u64 x1612)).bind fun y1627 => (rec1602 (IntKind.i64.wrap (x1565 + 1)) y1627)))) else (if (Int.tmod x1420.n 64) > 0 then ((getI x1566 (IntKind.i64.wrap ((x1566.length : Int) - 1))).bind fun x1673 => (if 0 ≤ (IntKind.u64.wrap (Int.tmod x1420.n 64)) then ((some (IntKind.u64.wrap ((shlI .u64 1 (IntKind.u64.wrap (Int.tmod x1420.n 64))) - 1))).bind fun x1682 => ((getI x1566 (IntKind.i64.wrap ((x1566.length : Int) - 1))).bind fun x1684 => ((setI x1566 (IntKind.i64.wrap ((x1566.length : Int) - 1)) (andI .u64 x1673 x1682)).bind fun y1691 => (some (some (T_extent_Set.mk x1420.n y1691)))))) else none)) else (some (some (T_extent_Set.mk x1420.n x1566))))
def g16_l1 (x1420 : T_extent_Set) : Nat → Int → (List Int) → Option (Option T_extent_Set)
  | 0, _, _ => none
  | n + 1, x1565, x1566 => g16_l1B x1420 (g16_l1 x1420 n) x1565 x1566
def g16 (p0 : T_extent_Set) : Option (Option T_extent_Set) :=
  (g21 p0).bind fun x1412 => (optC x1412 (some none) (fun x1420 => (g16_l1 x1420 FUEL 0 x1420.w)))

-- math/bits.TrailingZeros64 
def g44 (p0 : Int) : Option Int :=
  if p0 = 0 then (some 64) else ((some (IntKind.u64.wrap ((andI .u64 p0 (IntKind.u64.wrap (0 - p0))) * 285870213051353865))).bind fun x1793 => ((getI TAB0 (shrI .u64 x1793 58)).bind fun x1795 => (some (IntKind.i64.wrap x1795))))

-- (*incipit/extent.Set).First (('obj', 53, ('.', 'own')), '.')
def g27_l2B (p0 : T_extent_Set) (rec2635 : Int → Int → Option Int) (x2567 : Int) (x2568 : Int) : Option Int :=
  if x2568 < (p0.w.length : Int) then ((getI p0.w x2568).bind fun x2688 => (if (andI .u64 x2688 x2567) ≠ 0 then ((g44 (andI .u64 x2688 x2567)).bind fun x2697 => (some (IntKind.i64.wrap ((IntKind.i64.wrap (x2568 * 64)) + x2697)))) else (rec2635 18446744073709551615 (IntKind.i64.wrap (x2568 + 1))))) else (some (-1))
def g27_l2 (p0 : T_extent_Set) : Nat → Int → Int → Option Int
  | 0, _, _ => none
  | n + 1, x2567, x2568 => g27_l2B p0 (g27_l2 p0 n) x2567 x2568
def g27_j1 (p0 : T_extent_Set) (p1 : Int) (x2265 : Bool) : Option Int :=
  if x2265 = true then (some (-1)) else (if 0 ≤ (IntKind.u64.wrap (Int.tmod (if 0 > p1 then 0 else p1) 64)) then ((some (shlI .u64 18446744073709551615 (IntKind.u64.wrap (Int.tmod (if 0 > p1 then 0 else p1) 64)))).bind fun x2270 => (g27_l2 p0 FUEL x2270 (IntKind.i64.wrap (Int.tdiv (if 0 > p1 then 0 else p1) 64)))) else none)
def g27 (p0 : T_extent_Set) (p1 : Int) : Option Int :=
  (g34 p0).bind fun x2708 => (if x2708 = true then (g27_j1 p0 p1 true) else (g27_j1 p0 p1 (decide (p1 ≥ p0.n))))

-- (*incipit/extent.Set).none ('nil',)
def g34_1  : Option Bool :=
  some true

-- (*incipit/extent.Set).First ('nil', '.')
def g27_1 (p1 : Int) : Option Int :=
  (g34_1).bind fun x2782 => (if x2782 = true then (some (-1)) else (none))

-- math/bits.OnesCount64 
def g35 (p0 : Int) : Option Int :=
  (some (IntKind.u64.wrap ((andI .u64 (shrI .u64 p0 1) 6148914691236517205) + (andI .u64 p0 6148914691236517205)))).bind fun x5204 => ((some (IntKind.u64.wrap ((andI .u64 (shrI .u64 x5204 2) 3689348814741910323) + (andI .u64 x5204 3689348814741910323)))).bind fun x5206 => ((some (andI .u64 (IntKind.u64.wrap ((shrI .u64 x5206 4) + x5206)) 1085102592571150095)).bind fun x5208 => ((some (shrI .u64 (IntKind.u64.wrap (x5208 + (shrI .u64 x5208 8))) 16)).bind fun x5210 => ((some (IntKind.u64.wrap ((IntKind.u64.wrap (x5208 + (shrI .u64 x5208 8))) + x5210))).bind fun x5212 => ((some (IntKind.i64.wrap (IntKind.u64.wrap (x5212 + (shrI .u64 x5212 32))))).bind fun x5214 => (some (andI .i64 x5214 127)))))))

-- (*incipit/extent.Set).Len (('obj', 53, ('.', 'own')),)
def g14_l1B (p0 : T_extent_Set) (rec5455 : Int → Int → Option Int) (x5434 : Int) (x5435 : Int) : Option Int :=
  if x5435 < (p0.w.length : Int) then ((getI p0.w x5435).bind fun x5460 => ((g35 x5460).bind fun x5468 => (rec5455 (IntKind.i64.wrap (x5434 + x5468)) (IntKind.i64.wrap (x5435 + 1))))) else (some x5434)
def g14_l1 (p0 : T_extent_Set) : Nat → Int → Int → Option Int
  | 0, _, _ => none
  | n + 1, x5434, x5435 => g14_l1B p0 (g14_l1 p0 n) x5434 x5435
def g14 (p0 : T_extent_Set) : Option Int :=
  (g34 p0).bind fun x5345 => (if x5345 = true then (some 0) else (g14_l1 p0 FUEL 0 0))

-- (*incipit/extent.Set).Run (('obj', 53, ('.', 'own')), '.')
def g15_j1 (x6547 : Int) : Option Int :=
  some x6547
def g15_j3 (p0 : T_extent_Set) (p1 : Int) (x6640 : Int) (rec6687 : Int → Option Int) (x6701 : Int) : Option Int :=
  if (IntKind.i64.wrap (x6701 - x6640)) ≥ p1 then (g15_j1 x6640) else ((g27 p0 x6701).bind fun x6726 => (rec6687 x6726))
def g15_l2B (p0 : T_extent_Set) (p1 : Int) (rec6687 : Int → Option Int) (x6640 : Int) : Option Int :=
  if x6640 ≥ 0 then ((g27_1 x6640).bind fun x6692 => (if x6692 < 0 then (g15_j3 p0 p1 x6640 rec6687 p0.n) else (g15_j3 p0 p1 x6640 rec6687 x6692))) else (g15_j1 (-1))
def g15_l2 (p0 : T_extent_Set) (p1 : Int) : Nat → Int → Option Int
  | 0, _ => none
  | n + 1, x6640 => g15_l2B p0 p1 (g15_l2 p0 p1 n) x6640
def g15_j5 (p0 : T_extent_Set) (p1 : Int) (x6793 : Int) (rec6840 : Int → Option Int) (x6854 : Int) : Option Int :=
  if (IntKind.i64.wrap (x6854 - x6793)) ≥ p1 then (g15_j1 x6793) else ((g27 p0 x6854).bind fun x6879 => (rec6840 x6879))
def g15_l4B (p0 : T_extent_Set) (p1 : Int) (x6578 : T_extent_Set) (rec6840 : Int → Option Int) (x6793 : Int) : Option Int :=
  if x6793 ≥ 0 then ((g27 x6578 x6793).bind fun x6845 => (if x6845 < 0 then (g15_j5 p0 p1 x6793 rec6840 p0.n) else (g15_j5 p0 p1 x6793 rec6840 x6845))) else (g15_j1 (-1))
def g15_l4 (p0 : T_extent_Set) (p1 : Int) (x6578 : T_extent_Set) : Nat → Int → Option Int
  | 0, _ => none
  | n + 1, x6793 => g15_l4B p0 p1 x6578 (g15_l4 p0 p1 x6578 n) x6793
def g15 (p0 : T_extent_Set) (p1 : Int) : Option Int :=
  if p1 < 1 then (some (-1)) else ((g16 p0).bind fun x6570 => (optC x6570 ((g27 p0 0).bind fun x6587 => (g15_l2 p0 p1 FUEL x6587)) (fun x6578 => ((g27 p0 0).bind fun x6740 => (g15_l4 p0 p1 x6578 FUEL x6740)))))

-- incipit/incipitref05.Ints 
def g30_l1B (p0 : (List Int)) (p1 : (List Int)) (rec7519 : Int → Option Bool) (x7466 : Int) : Option Bool :=
  if x7466 < (p0.length : Int) then ((getI p0 x7466).bind fun x7553 => ((getI p1 x7466).bind fun x7562 => (if x7553 ≠ x7562 then (some false) else (rec7519 (IntKind.i64.wrap (x7466 + 1)))))) else (some true)
def g30_l1 (p0 : (List Int)) (p1 : (List Int)) : Nat → Int → Option Bool
  | 0, _ => none
  | n + 1, x7466 => g30_l1B p0 p1 (g30_l1 p0 p1 n) x7466
def g30 (p0 : (List Int)) (p1 : (List Int)) : Option Bool :=
  if (p0.length : Int) ≠ (p1.length : Int) then (some false) else (g30_l1 p0 p1 FUEL 0)

-- incipit/incipitlaw07.live 
def g8_j2 (x10997 : Bool) : Option Bool :=
  some x10997
def g8_j1 (x8493 : T_extent_Set) (x10900 : (List Int)) (x10908 : (List Int)) : Option Bool :=
  (g14 x8493).bind fun x11002 => (if x11002 = 3 then ((g15 x8493 2).bind fun x11010 => (if x11010 = 1 then ((g15 x8493 3).bind fun x11018 => (if x11018 = (-1) then ((g30 x10908 ([1, 5] : List Int)).bind fun x11039 => (if x11039 = true then ((g30 x10900 ([2, 1] : List Int)).bind fun x11063 => (g8_j2 x11063)) else (g8_j2 false))) else (g8_j2 false))) else (g8_j2 false))) else (g8_j2 false))
def g8_j4 (x8493 : T_extent_Set) (x11219 : Int) (x11220 : (List Int)) (x11228 : (List Int)) (rec11352 : Int → (List Int) → (List Int) → Option Bool) (x11366 : Int) : Option Bool :=
  if (x11228.length : Int) ≥ 9 then (g8_j1 x8493 x11220 x11228) else ((appI x11228 ([x11219] : List Int) 8).bind fun x11431 => ((appI x11220 ([IntKind.i64.wrap (x11366 - x11219)] : List Int) 8).bind fun x11449 => ((g27 x8493 x11366).bind fun x11461 => (rec11352 x11461 x11449 x11431))))
def g8_l3B (x8493 : T_extent_Set) (rec11352 : Int → (List Int) → (List Int) → Option Bool) (x11219 : Int) (x11220 : (List Int)) (x11228 : (List Int)) : Option Bool :=
  if x11219 ≥ 0 then ((g27_1 x11219).bind fun x11357 => (if x11357 < 0 then (g8_j4 x8493 x11219 x11220 x11228 rec11352 x8493.n) else (g8_j4 x8493 x11219 x11220 x11228 rec11352 x11357))) else (g8_j1 x8493 x11220 x11228)
def g8_l3 (x8493 : T_extent_Set) : Nat → Int → (List Int) → (List Int) → Option Bool
  | 0, _, _, _ => none
  | n + 1, x11219, x11220, x11228 => g8_l3B x8493 (g8_l3 x8493 n) x11219 x11220 x11228
def g8_j6 (x8493 : T_extent_Set) (x11596 : Int) (x11597 : (List Int)) (x11605 : (List Int)) (rec11729 : Int → (List Int) → (List Int) → Option Bool) (x11743 : Int) : Option Bool :=
  if (x11605.length : Int) ≥ 9 then (g8_j1 x8493 x11597 x11605) else ((appI x11605 ([x11596] : List Int) 8).bind fun x11808 => ((appI x11597 ([IntKind.i64.wrap (x11743 - x11596)] : List Int) 8).bind fun x11826 => ((g27 x8493 x11743).bind fun x11838 => (rec11729 x11838 x11826 x11808))))
def g8_l5B (x8493 : T_extent_Set) (x11091 : T_extent_Set) (rec11729 : Int → (List Int) → (List Int) → Option Bool) (x11596 : Int) (x11597 : (List Int)) (x11605 : (List Int)) : Option Bool :=
  if x11596 ≥ 0 then ((g27 x11091 x11596).bind fun x11734 => (if x11734 < 0 then (g8_j6 x8493 x11596 x11597 x11605 rec11729 x8493.n) else (g8_j6 x8493 x11596 x11597 x11605 rec11729 x11734))) else (g8_j1 x8493 x11597 x11605)
def g8_l5 (x8493 : T_extent_Set) (x11091 : T_extent_Set) : Nat → Int → (List Int) → (List Int) → Option Bool
  | 0, _, _, _ => none
  | n + 1, x11596, x11597, x11605 => g8_l5B x8493 x11091 (g8_l5 x8493 x11091 n) x11596 x11597 x11605
def g8  : Option Bool :=
  (g10 8 ([5, 1, 2] : List Int)).bind fun x8483 => (optC x8483 (some false) (fun x8493 => ((g16 x8493).bind fun x11083 => (optC x11083 ((g27 x8493 0).bind fun x11100 => (g8_l3 x8493 FUEL x11100 ([] : List Int) ([] : List Int))) (fun x11091 => ((g27 x8493 0).bind fun x11477 => (g8_l5 x8493 x11091 FUEL x11477 ([] : List Int) ([] : List Int))))))))

-- incipit/incipitlaw07.few 
def g9 (p0 : Int) (p1 : (List Int)) : Option Bool :=
  if p0 ≥ 1 then (if p0 ≤ 300 then (some (decide ((p1.length : Int) ≤ 400))) else (some false)) else (some false)

-- incipit/incipitlaw07.ExtentRuns 
def g3_l5B (x21053 : T_extent_Set) (x23458 : (List Int)) (x27702 : Int) (x27703 : Int) (rec28484 : Int → Int → Option Bool) (x28877 : Int) (x29133 : Int) (rec29183 : Int → Option Bool) (x29162 : Int) : Option Bool :=
  if x29162 < x29133 then ((g13 x21053 (IntKind.i64.wrap (x28877 + x29162))).bind fun x29196 => (if ¬ (x29196 = true) then (some false) else (rec29183 (IntKind.i64.wrap (x29162 + 1))))) else ((getI x23458 x27703).bind fun x29204 => (rec28484 (IntKind.i64.wrap (x27702 + x29204)) (IntKind.i64.wrap (x27703 + 1))))
def g3_l5 (x21053 : T_extent_Set) (x23458 : (List Int)) (x27702 : Int) (x27703 : Int) (rec28484 : Int → Int → Option Bool) (x28877 : Int) (x29133 : Int) : Nat → Int → Option Bool
  | 0, _ => none
  | n + 1, x29162 => g3_l5B x21053 x23458 x27702 x27703 rec28484 x28877 x29133 (g3_l5 x21053 x23458 x27702 x27703 rec28484 x28877 x29133 n) x29162
def g3_j4 (x21053 : T_extent_Set) (x23458 : (List Int)) (x27702 : Int) (x27703 : Int) (rec28484 : Int → Int → Option Bool) (x28877 : Int) (x29049 : Int) (x29050 : Bool) (x29051 : Bool) (x29052 : Bool) (x29053 : Bool) (x29054 : Bool) (x29055 : Bool) (x29056 : Bool) : Option Bool :=
  if x29056 = true then (some false) else ((getI x23458 x27703).bind fun x29133 => (g3_l5 x21053 x23458 x27702 x27703 rec28484 x28877 x29133 FUEL 0))
def g3_l3B (p0 : Int) (x21053 : T_extent_Set) (x23458 : (List Int)) (x23466 : (List Int)) (rec28484 : Int → Int → Option Bool) (x27702 : Int) (x27703 : Int) : Option Bool :=
  if x27703 < (x23466.length : Int) then ((getI x23466 x27703).bind fun x28877 => ((getI x23458 x27703).bind fun x29221 => (if x29221 < 1 then (g3_j4 x21053 x23458 x27702 x27703 rec28484 x28877 x29221 (decide (x29221 < 1)) true true true true true true) else (if x28877 < 0 then (g3_j4 x21053 x23458 x27702 x27703 rec28484 x28877 x29221 (decide (x29221 < 1)) false (decide (x28877 < 0)) true true true true) else (if x27703 > 0 then ((getI x23466 (IntKind.i64.wrap (x27703 - 1))).bind fun x29232 => ((getI x23458 (IntKind.i64.wrap (x27703 - 1))).bind fun x29240 => (if x28877 ≤ (IntKind.i64.wrap (x29232 + x29240)) then (g3_j4 x21053 x23458 x27702 x27703 rec28484 x28877 x29221 (decide (x29221 < 1)) false (decide (x28877 < 0)) false (decide (x28877 ≤ (IntKind.i64.wrap (x29232 + x29240)))) true true) else ((getI x23458 x27703).bind fun x29249 => (g3_j4 x21053 x23458 x27702 x27703 rec28484 x28877 x29221 (decide (x29221 < 1)) false (decide (x28877 < 0)) false (decide (x28877 ≤ (IntKind.i64.wrap (x29232 + x29240)))) false (decide (x28877 > (IntKind.i64.wrap (p0 - x29249))))))))) else ((getI x23458 x27703).bind fun x29257 => (g3_j4 x21053 x23458 x27702 x27703 rec28484 x28877 x29221 (decide (x29221 < 1)) false (decide (x28877 < 0)) false false false (decide (x28877 > (IntKind.i64.wrap (p0 - x29257))))))))))) else ((g14 x21053).bind fun x29265 => (some (decide (x27702 = x29265))))
def g3_l3 (p0 : Int) (x21053 : T_extent_Set) (x23458 : (List Int)) (x23466 : (List Int)) : Nat → Int → Int → Option Bool
  | 0, _, _ => none
  | n + 1, x27702, x27703 => g3_l3B p0 x21053 x23458 x23466 (g3_l3 p0 x21053 x23458 x23466 n) x27702 x27703
def g3_j2 (p0 : Int) (x21053 : T_extent_Set) (x23458 : (List Int)) (x23466 : (List Int)) : Option Bool :=
  g3_l3 p0 x21053 x23458 x23466 FUEL 0 0
def g3_j7 (p0 : Int) (x21053 : T_extent_Set) (x29420 : Int) (x29421 : (List Int)) (x29429 : (List Int)) (rec29553 : Int → (List Int) → (List Int) → Option Bool) (x29567 : Int) : Option Bool :=
  if (x29429.length : Int) ≥ 1048576 then (g3_j2 p0 x21053 x29421 x29429) else ((appI x29429 ([x29420] : List Int) 8).bind fun x29632 => ((appI x29421 ([IntKind.i64.wrap (x29567 - x29420)] : List Int) 8).bind fun x29650 => ((g27 x21053 x29567).bind fun x29662 => (rec29553 x29662 x29650 x29632))))
def g3_l6B (p0 : Int) (x21053 : T_extent_Set) (rec29553 : Int → (List Int) → (List Int) → Option Bool) (x29420 : Int) (x29421 : (List Int)) (x29429 : (List Int)) : Option Bool :=
  if x29420 ≥ 0 then ((g27_1 x29420).bind fun x29558 => (if x29558 < 0 then (g3_j7 p0 x21053 x29420 x29421 x29429 rec29553 x21053.n) else (g3_j7 p0 x21053 x29420 x29421 x29429 rec29553 x29558))) else (g3_j2 p0 x21053 x29421 x29429)
def g3_l6 (p0 : Int) (x21053 : T_extent_Set) : Nat → Int → (List Int) → (List Int) → Option Bool
  | 0, _, _, _ => none
  | n + 1, x29420, x29421, x29429 => g3_l6B p0 x21053 (g3_l6 p0 x21053 n) x29420 x29421 x29429
def g3_j9 (p0 : Int) (x21053 : T_extent_Set) (x29797 : Int) (x29798 : (List Int)) (x29806 : (List Int)) (rec29930 : Int → (List Int) → (List Int) → Option Bool) (x29944 : Int) : Option Bool :=
  if (x29806.length : Int) ≥ 1048576 then (g3_j2 p0 x21053 x29798 x29806) else ((appI x29806 ([x29797] : List Int) 8).bind fun x30009 => ((appI x29798 ([IntKind.i64.wrap (x29944 - x29797)] : List Int) 8).bind fun x30027 => ((g27 x21053 x29944).bind fun x30039 => (rec29930 x30039 x30027 x30009))))
def g3_l8B (p0 : Int) (x21053 : T_extent_Set) (x29292 : T_extent_Set) (rec29930 : Int → (List Int) → (List Int) → Option Bool) (x29797 : Int) (x29798 : (List Int)) (x29806 : (List Int)) : Option Bool :=
  if x29797 ≥ 0 then ((g27 x29292 x29797).bind fun x29935 => (if x29935 < 0 then (g3_j9 p0 x21053 x29797 x29798 x29806 rec29930 x21053.n) else (g3_j9 p0 x21053 x29797 x29798 x29806 rec29930 x29935))) else (g3_j2 p0 x21053 x29798 x29806)
def g3_l8 (p0 : Int) (x21053 : T_extent_Set) (x29292 : T_extent_Set) : Nat → Int → (List Int) → (List Int) → Option Bool
  | 0, _, _, _ => none
  | n + 1, x29797, x29798, x29806 => g3_l8B p0 x21053 x29292 (g3_l8 p0 x21053 x29292 n) x29797 x29798 x29806
def g3_j1 (p0 : Int) (p1 : (List Int)) (x21034 : Bool) : Option Bool :=
  if x21034 = true then ((g8).bind fun x21038 => (some x21038)) else ((g10 p0 p1).bind fun x21045 => (optC x21045 (some false) (fun x21053 => ((g16 x21053).bind fun x29284 => (optC x29284 ((g27 x21053 0).bind fun x29301 => (g3_l6 p0 x21053 FUEL x29301 ([] : List Int) ([] : List Int))) (fun x29292 => ((g27 x21053 0).bind fun x29678 => (g3_l8 p0 x21053 x29292 FUEL x29678 ([] : List Int) ([] : List Int)))))))))
def g3 (p0 : Int) (p1 : (List Int)) : Option Bool :=
  (g8).bind fun x30057 => (if ¬ (x30057 = true) then (g3_j1 p0 p1 true) else ((g9 p0 p1).bind fun x30065 => (g3_j1 p0 p1 (decide (¬ (x30065 = true))))))

-- incipit/incipitlaw07.ExtentFits 
def g4_l3B (p2 : Int) (x31853 : T_extent_Set) (x31862 : Int) (x32921 : Int) (rec33184 : Int → Option Bool) (rec33423 : Bool → Int → Option Bool) (x33401 : Bool) (x33402 : Int) : Option Bool :=
  if x33402 < (IntKind.i64.wrap (1 + (Int.tmod (IntKind.i64.wrap p2) 40))) then (if x33401 = true then ((g13 x31853 (IntKind.i64.wrap (x32921 + x33402))).bind fun x33437 => (rec33423 x33437 (IntKind.i64.wrap (x33402 + 1)))) else (rec33423 false (IntKind.i64.wrap (x33402 + 1)))) else (if x33401 = true then (some (decide (x31862 = x32921))) else (rec33184 (IntKind.i64.wrap (x32921 + 1))))
def g4_l3 (p2 : Int) (x31853 : T_extent_Set) (x31862 : Int) (x32921 : Int) (rec33184 : Int → Option Bool) : Nat → Bool → Int → Option Bool
  | 0, _, _ => none
  | n + 1, x33401, x33402 => g4_l3B p2 x31853 x31862 x32921 rec33184 (g4_l3 p2 x31853 x31862 x32921 rec33184 n) x33401 x33402
def g4_l2B (p0 : Int) (p2 : Int) (x31853 : T_extent_Set) (x31862 : Int) (rec33184 : Int → Option Bool) (x32921 : Int) : Option Bool :=
  (some (IntKind.i64.wrap (p0 - (IntKind.i64.wrap (1 + (Int.tmod (IntKind.i64.wrap p2) 40)))))).bind fun x33190 => (if x32921 ≤ x33190 then (g4_l3 p2 x31853 x31862 x32921 rec33184 FUEL true 0) else (some (decide (x31862 = (-1)))))
def g4_l2 (p0 : Int) (p2 : Int) (x31853 : T_extent_Set) (x31862 : Int) : Nat → Int → Option Bool
  | 0, _ => none
  | n + 1, x32921 => g4_l2B p0 p2 x31853 x31862 (g4_l2 p0 p2 x31853 x31862 n) x32921
def g4_j1 (p0 : Int) (p1 : (List Int)) (p2 : Int) (x31834 : Bool) : Option Bool :=
  if x31834 = true then ((g8).bind fun x31838 => (some x31838)) else ((g10 p0 p1).bind fun x31845 => (optC x31845 (some false) (fun x31853 => ((g15 x31853 (IntKind.i64.wrap (1 + (Int.tmod (IntKind.i64.wrap p2) 40)))).bind fun x31862 => (g4_l2 p0 p2 x31853 x31862 FUEL 0)))))
def g4 (p0 : Int) (p1 : (List Int)) (p2 : Int) : Option Bool :=
  (g8).bind fun x33451 => (if ¬ (x33451 = true) then (g4_j1 p0 p1 p2 true) else ((g9 p0 p1).bind fun x33459 => (g4_j1 p0 p1 p2 (decide (¬ (x33459 = true))))))

-- (*incipit/extent.Set).Size (('obj', 53, ('.', 'own')),)
def g17 (p0 : T_extent_Set) : Option Int :=
  (g34 p0).bind fun x33664 => (if x33664 = true then (some 0) else (some p0.n))

-- slices.Equal[[]uint64,uint64] 
def g36_l1B (p0 : (List Int)) (p1 : (List Int)) (rec34445 : Int → Option Bool) (x34392 : Int) : Option Bool :=
  if x34392 < (p0.length : Int) then ((getI p0 x34392).bind fun x34479 => ((getI p1 x34392).bind fun x34488 => (if x34479 ≠ x34488 then (some false) else (rec34445 (IntKind.i64.wrap (x34392 + 1)))))) else (some true)
def g36_l1 (p0 : (List Int)) (p1 : (List Int)) : Nat → Int → Option Bool
  | 0, _ => none
  | n + 1, x34392 => g36_l1B p0 p1 (g36_l1 p0 p1 n) x34392
def g36 (p0 : (List Int)) (p1 : (List Int)) : Option Bool :=
  if (p0.length : Int) ≠ (p1.length : Int) then (some false) else (g36_l1 p0 p1 FUEL 0)

-- incipit/extent.Same (('obj', 53, ('.', 'own')), ('obj', 53, ('.', 'own')))
def g18_j2 (x34680 : Bool) : Option Bool :=
  some x34680
def g18_j1 (p0 : T_extent_Set) (p1 : T_extent_Set) (x34660 : Bool) : Option Bool :=
  if x34660 = true then ((g34 p0).bind fun x34685 => (if x34685 = true then ((g34 p1).bind fun x34693 => (g18_j2 x34693)) else (g18_j2 false))) else (if p0.n = p1.n then ((g36 p0.w p1.w).bind fun x34739 => (some x34739)) else (some false))
def g18 (p0 : T_extent_Set) (p1 : T_extent_Set) : Option Bool :=
  (g34 p0).bind fun x34752 => (if x34752 = true then (g18_j1 p0 p1 true) else ((g34 p1).bind fun x34760 => (g18_j1 p0 p1 x34760)))

-- incipit/extent.Same ('nil', ('obj', 53, ('.', 'own')))
def g18_1_j2 (x35061 : Bool) : Option Bool :=
  some x35061
def g18_1_j1 (p1 : T_extent_Set) (x35041 : Bool) : Option Bool :=
  if x35041 = true then ((g34_1).bind fun x35066 => (if x35066 = true then ((g34 p1).bind fun x35074 => (g18_1_j2 x35074)) else (g18_1_j2 false))) else (none)
def g18_1 (p1 : T_extent_Set) : Option Bool :=
  (g34_1).bind fun x35093 => (if x35093 = true then (g18_1_j1 p1 true) else ((g34 p1).bind fun x35101 => (g18_1_j1 p1 x35101)))

-- incipit/incipitlaw07.ExtentNot 
def g5_l3B (p0 : Int) (x36038 : T_extent_Set) (x36072 : T_extent_Set) (x36089 : T_extent_Set) (rec36769 : Bool → Int → Option Bool) (x36673 : Bool) (x36674 : Int) : Option Bool :=
  if x36674 < p0 then ((g13 x36038 x36674).bind fun x36834 => ((g13 x36089 x36674).bind fun x36841 => (if x36834 = x36841 then (some false) else (if x36673 = true then ((g13 x36038 x36674).bind fun x36850 => ((g13 x36072 x36674).bind fun x36857 => (rec36769 (decide (x36850 = x36857)) (IntKind.i64.wrap (x36674 + 1))))) else (rec36769 false (IntKind.i64.wrap (x36674 + 1))))))) else ((g18 x36038 x36072).bind fun x36879 => (if x36879 = x36673 then ((g18 x36072 x36038).bind fun x36887 => (some (decide (x36887 = x36673)))) else (some false)))
def g5_l3 (p0 : Int) (x36038 : T_extent_Set) (x36072 : T_extent_Set) (x36089 : T_extent_Set) : Nat → Bool → Int → Option Bool
  | 0, _, _ => none
  | n + 1, x36673, x36674 => g5_l3B p0 x36038 x36072 x36089 (g5_l3 p0 x36038 x36072 x36089 n) x36673 x36674
def g5_j2 (p0 : Int) (x36038 : T_extent_Set) (x36072 : T_extent_Set) (x36089 : T_extent_Set) (x36292 : Bool) : Option Bool :=
  if x36292 = true then (some false) else (g5_l3 p0 x36038 x36072 x36089 FUEL true 0)
def g5_j1 (p0 : Int) (p1 : (List Int)) (p2 : (List Int)) (x36019 : Bool) : Option Bool :=
  if x36019 = true then ((g8).bind fun x36023 => (some x36023)) else ((g10 p0 p1).bind fun x36030 => (optC x36030 ((g10 p0 p2).bind fun x36047 => (optC x36047 (some false) (fun x36055 => (some false)))) (fun x36038 => ((g10 p0 p2).bind fun x36064 => (optC x36064 (some false) (fun x36072 => ((g16 x36038).bind fun x36081 => (optC x36081 (some false) (fun x36089 => ((g17 x36089).bind fun x36898 => (if x36898 ≠ p0 then (g5_j2 p0 x36038 x36072 x36089 true) else ((g14 x36089).bind fun x36906 => ((g14 x36038).bind fun x36913 => (if (IntKind.i64.wrap (x36906 + x36913)) ≠ p0 then (g5_j2 p0 x36038 x36072 x36089 true) else ((g18 x36038 x36089).bind fun x36921 => (if x36921 = true then (g5_j2 p0 x36038 x36072 x36089 true) else ((g16 x36089).bind fun x36929 => (optC x36929 ((g18_1 x36038).bind fun x36946 => (g5_j2 p0 x36038 x36072 x36089 (decide (¬ (x36946 = true))))) (fun x36937 => ((g18 x36937 x36038).bind fun x36953 => (g5_j2 p0 x36038 x36072 x36089 (decide (¬ (x36953 = true))))))))))))))))))))))))
def g5 (p0 : Int) (p1 : (List Int)) (p2 : (List Int)) : Option Bool :=
  (g8).bind fun x36962 => (if ¬ (x36962 = true) then (g5_j1 p0 p1 p2 true) else ((g9 p0 p1).bind fun x36970 => (if ¬ (x36970 = true) then (g5_j1 p0 p1 p2 true) else (g5_j1 p0 p1 p2 (decide ((p2.length : Int) > 400))))))

end Go.Proofs.YtgcielbnmlfjbaaDoor
