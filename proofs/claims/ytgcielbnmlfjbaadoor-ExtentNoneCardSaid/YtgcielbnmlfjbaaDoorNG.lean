/- PRINTED BY sy.py: what each Go function computes, in plain Lean. -/
import Derived.Test.YtgcielbnmlfjbaaDoorSXs
namespace Go.Proofs.YtgcielbnmlfjbaaDoor
open Go Go.SX Go.RowKit
set_option maxRecDepth 100000
set_option linter.unusedVariables false
def TAB0 : List Int := [0, 1, 56, 2, 57, 49, 28, 3, 61, 58, 42, 50, 38, 29, 17, 4, 62, 47, 59, 36, 45, 43, 51, 22, 53, 39, 33, 30, 24, 18, 12, 5, 63, 55, 48, 27, 60, 41, 37, 16, 46, 35, 44, 21, 52, 32, 23, 11, 54, 26, 40, 15, 34, 20, 31, 10, 25, 14, 19, 9, 13, 8, 7, 6]
structure T_extent_Set where
  n : Int
  w : (List Int)
  deriving DecidableEq
-- (*incipit/extent.Set).none ('nil',)
def g34  : Option Bool :=
  some true

-- (*incipit/extent.Set).Clone ('nil',)
def g21  : Option Unit :=
  (g34).bind fun x66 => (if x66 = true then (some ()) else (none))

-- (*incipit/extent.Set).Not ('nil',)
def g16  : Option Unit :=
  (g21).bind fun x86 => (some ())

-- (*incipit/extent.Set).First ('nil', '.')
def g27 (p1 : Int) : Option Int :=
  (g34).bind fun x156 => (if x156 = true then (some (-1)) else (none))

-- (*incipit/extent.Set).Size ('nil',)
def g17  : Option Int :=
  (g34).bind fun x1378 => (if x1378 = true then (some 0) else (none))

-- (*incipit/extent.Set).Len ('nil',)
def g14  : Option Int :=
  (g34).bind fun x1417 => (if x1417 = true then (some 0) else (none))

-- (*incipit/extent.Set).may ('nil', '.')
def g32 (p1 : Int) : Option Int :=
  (g34).bind fun x1463 => (if x1463 = true then (some 2) else (if p1 < 0 then (some 1) else (none)))

-- (*incipit/extent.Set).Has ('nil', '.')
def g13 (p1 : Int) : Option Bool :=
  (g32 p1).bind fun x1533 => (if x1533 = 0 then (none) else (some false))

-- (*incipit/extent.Set).Add ('nil', '.')
def g22 (p1 : Int) : Option Int :=
  (g32 p1).bind fun x1570 => (if x1570 ≠ 0 then (some x1570) else ((g13 p1).bind fun x1586 => (if x1586 = true then (some 70) else (none))))

-- (*incipit/extent.Set).Drop ('nil', '.')
def g23 (p1 : Int) : Option Int :=
  (g32 p1).bind fun x1652 => (if x1652 ≠ 0 then (some x1652) else ((g13 p1).bind fun x1668 => (if ¬ (x1668 = true) then (some 4) else (none))))

-- (*incipit/extent.Set).Run ('nil', '.')
def g15_l1B (p1 : Int) (rec2332 : Int → Option Int) (x2289 : Int) : Option Int :=
  if x2289 ≥ 0 then ((g27 x2289).bind fun x2337 => (if x2337 < 0 then (none) else (if (IntKind.i64.wrap (x2337 - x2289)) ≥ p1 then (some x2289) else ((g27 x2337).bind fun x2372 => (rec2332 x2372))))) else (some (-1))
def g15_l1 (p1 : Int) : Nat → Int → Option Int
  | 0, _ => none
  | n + 1, x2289 => g15_l1B p1 (g15_l1 p1 n) x2289
def g15 (p1 : Int) : Option Int :=
  if p1 < 1 then (some (-1)) else ((g16).bind fun x2233 => ((g27 0).bind fun x2240 => (g15_l1 p1 FUEL x2240)))

-- incipit/extent.Same ('nil', 'nil')
def g18_j2 (x3398 : Bool) : Option Bool :=
  some x3398
def g18_j1 (x3378 : Bool) : Option Bool :=
  if x3378 = true then ((g34).bind fun x3403 => (if x3403 = true then ((g34).bind fun x3411 => (g18_j2 x3411)) else (g18_j2 false))) else (none)
def g18  : Option Bool :=
  (g34).bind fun x3430 => (if x3430 = true then (g18_j1 true) else ((g34).bind fun x3438 => (g18_j1 x3438)))

-- (*incipit/extent.Set).none (('obj', 53, ('.', 'own')),)
def g34_1 (p0 : T_extent_Set) : Option Bool :=
  some (decide (p0.n = 0))

-- slices.Clone[[]uint64,uint64] 
def g37 (p0 : (List Int)) : Option (List Int) :=
  (appI ([] : List Int) p0 8).bind fun x7558 => (some x7558)

-- (*incipit/extent.Set).Clone (('obj', 53, ('.', 'own')),)
def g21_1 (p0 : T_extent_Set) : Option (Option T_extent_Set) :=
  (g34_1 p0).bind fun x7613 => (if x7613 = true then (some none) else ((g37 p0.w).bind fun x7630 => (some (some (T_extent_Set.mk p0.n x7630)))))

-- (*incipit/extent.Set).Not (('obj', 53, ('.', 'own')),)
def g16_1_l1B (x7963 : T_extent_Set) (rec8145 : Int → (List Int) → Option (Option T_extent_Set)) (x8108 : Int) (x8109 : (List Int)) : Option (Option T_extent_Set) :=
  if x8108 < (x7963.w.length : Int) then ((getI x8109 x8108).bind fun x8155 => ((getI x8109 x8108).bind fun x8163 => ((setI x8109 x8108 (cplI .u64 x8155)).bind fun y8170 => (rec8145 (IntKind.i64.wrap (x8108 + 1)) y8170)))) else (if (Int.tmod x7963.n 64) > 0 then ((getI x8109 (IntKind.i64.wrap ((x8109.length : Int) - 1))).bind fun x8216 => (if 0 ≤ (IntKind.u64.wrap (Int.tmod x7963.n 64)) then ((some (IntKind.u64.wrap ((shlI .u64 1 (IntKind.u64.wrap (Int.tmod x7963.n 64))) - 1))).bind fun x8225 => ((getI x8109 (IntKind.i64.wrap ((x8109.length : Int) - 1))).bind fun x8227 => ((setI x8109 (IntKind.i64.wrap ((x8109.length : Int) - 1)) (andI .u64 x8216 x8225)).bind fun y8234 => (some (some (T_extent_Set.mk x7963.n y8234)))))) else none)) else (some (some (T_extent_Set.mk x7963.n x8109))))
def g16_1_l1 (x7963 : T_extent_Set) : Nat → Int → (List Int) → Option (Option T_extent_Set)
  | 0, _, _ => none
  | n + 1, x8108, x8109 => g16_1_l1B x7963 (g16_1_l1 x7963 n) x8108 x8109
def g16_1 (p0 : T_extent_Set) : Option (Option T_extent_Set) :=
  (g21_1 p0).bind fun x7955 => (optC x7955 (some none) (fun x7963 => (g16_1_l1 x7963 FUEL 0 x7963.w)))

-- math/bits.TrailingZeros64 
def g44 (p0 : Int) : Option Int :=
  if p0 = 0 then (some 64) else ((some (IntKind.u64.wrap ((andI .u64 p0 (IntKind.u64.wrap (0 - p0))) * 285870213051353865))).bind fun x8337 => ((getI TAB0 (shrI .u64 x8337 58)).bind fun x8339 => (some (IntKind.i64.wrap x8339))))

-- (*incipit/extent.Set).First (('obj', 53, ('.', 'own')), '.')
def g27_1_l2B (p0 : T_extent_Set) (rec9179 : Int → Int → Option Int) (x9111 : Int) (x9112 : Int) : Option Int :=
  if x9112 < (p0.w.length : Int) then ((getI p0.w x9112).bind fun x9232 => (if (andI .u64 x9232 x9111) ≠ 0 then ((g44 (andI .u64 x9232 x9111)).bind fun x9241 => (some (IntKind.i64.wrap ((IntKind.i64.wrap (x9112 * 64)) + x9241)))) else (rec9179 18446744073709551615 (IntKind.i64.wrap (x9112 + 1))))) else (some (-1))
def g27_1_l2 (p0 : T_extent_Set) : Nat → Int → Int → Option Int
  | 0, _, _ => none
  | n + 1, x9111, x9112 => g27_1_l2B p0 (g27_1_l2 p0 n) x9111 x9112
def g27_1_j1 (p0 : T_extent_Set) (p1 : Int) (x8809 : Bool) : Option Int :=
  if x8809 = true then (some (-1)) else (if 0 ≤ (IntKind.u64.wrap (Int.tmod (if 0 > p1 then 0 else p1) 64)) then ((some (shlI .u64 18446744073709551615 (IntKind.u64.wrap (Int.tmod (if 0 > p1 then 0 else p1) 64)))).bind fun x8814 => (g27_1_l2 p0 FUEL x8814 (IntKind.i64.wrap (Int.tdiv (if 0 > p1 then 0 else p1) 64)))) else none)
def g27_1 (p0 : T_extent_Set) (p1 : Int) : Option Int :=
  (g34_1 p0).bind fun x9252 => (if x9252 = true then (g27_1_j1 p0 p1 true) else (g27_1_j1 p0 p1 (decide (p1 ≥ p0.n))))

-- (*incipit/extent.Set).Size (('obj', 53, ('.', 'own')),)
def g17_1 (p0 : T_extent_Set) : Option Int :=
  (g34_1 p0).bind fun x11695 => (if x11695 = true then (some 0) else (some p0.n))

-- math/bits.OnesCount64 
def g35 (p0 : Int) : Option Int :=
  (some (IntKind.u64.wrap ((andI .u64 (shrI .u64 p0 1) 6148914691236517205) + (andI .u64 p0 6148914691236517205)))).bind fun x11757 => ((some (IntKind.u64.wrap ((andI .u64 (shrI .u64 x11757 2) 3689348814741910323) + (andI .u64 x11757 3689348814741910323)))).bind fun x11759 => ((some (andI .u64 (IntKind.u64.wrap ((shrI .u64 x11759 4) + x11759)) 1085102592571150095)).bind fun x11761 => ((some (shrI .u64 (IntKind.u64.wrap (x11761 + (shrI .u64 x11761 8))) 16)).bind fun x11763 => ((some (IntKind.u64.wrap ((IntKind.u64.wrap (x11761 + (shrI .u64 x11761 8))) + x11763))).bind fun x11765 => ((some (IntKind.i64.wrap (IntKind.u64.wrap (x11765 + (shrI .u64 x11765 32))))).bind fun x11767 => (some (andI .i64 x11767 127)))))))

-- (*incipit/extent.Set).Len (('obj', 53, ('.', 'own')),)
def g14_1_l1B (p0 : T_extent_Set) (rec12008 : Int → Int → Option Int) (x11987 : Int) (x11988 : Int) : Option Int :=
  if x11988 < (p0.w.length : Int) then ((getI p0.w x11988).bind fun x12013 => ((g35 x12013).bind fun x12021 => (rec12008 (IntKind.i64.wrap (x11987 + x12021)) (IntKind.i64.wrap (x11988 + 1))))) else (some x11987)
def g14_1_l1 (p0 : T_extent_Set) : Nat → Int → Int → Option Int
  | 0, _, _ => none
  | n + 1, x11987, x11988 => g14_1_l1B p0 (g14_1_l1 p0 n) x11987 x11988
def g14_1 (p0 : T_extent_Set) : Option Int :=
  (g34_1 p0).bind fun x11898 => (if x11898 = true then (some 0) else (g14_1_l1 p0 FUEL 0 0))

-- (*incipit/extent.Set).may (('obj', 53, ('.', 'own')), '.')
def g32_1 (p0 : T_extent_Set) (p1 : Int) : Option Int :=
  (g34_1 p0).bind fun x12095 => (if x12095 = true then (some 2) else (if p1 < 0 then (some 1) else (if p1 ≥ p0.n then (some 1) else (some 0))))

-- incipit/extent.bit 
def g33 (p0 : Int) : Option Int :=
  if 0 ≤ (IntKind.u64.wrap (Int.tmod p0 64)) then (some (shlI .u64 1 (IntKind.u64.wrap (Int.tmod p0 64)))) else none

-- (*incipit/extent.Set).Has (('obj', 53, ('.', 'own')), '.')
def g13_1 (p0 : T_extent_Set) (p1 : Int) : Option Bool :=
  (g32_1 p0 p1).bind fun x12229 => (if x12229 = 0 then ((getI p0.w (IntKind.i64.wrap (Int.tdiv p1 64))).bind fun x12237 => ((g33 p1).bind fun x12245 => (some (decide ((andI .u64 x12237 x12245) ≠ 0))))) else (some false))

-- (*incipit/extent.Set).Add (('obj', 53, ('.', 'own')), '.')
def g22_1 (p0 : T_extent_Set) (p1 : Int) : Option (Int × T_extent_Set) :=
  (g32_1 p0 p1).bind fun x12319 => (if x12319 ≠ 0 then (some (x12319, p0)) else ((g13_1 p0 p1).bind fun x12335 => (if x12335 = true then (some (70, p0)) else ((getI p0.w (IntKind.i64.wrap (Int.tdiv p1 64))).bind fun x12348 => ((g33 p1).bind fun x12356 => ((getI p0.w (IntKind.i64.wrap (Int.tdiv p1 64))).bind fun x12363 => ((setI p0.w (IntKind.i64.wrap (Int.tdiv p1 64)) (orI .u64 x12348 x12356)).bind fun y12370 => (some (0, (T_extent_Set.mk p0.n y12370))))))))))

-- (*incipit/extent.Set).Drop (('obj', 53, ('.', 'own')), '.')
def g23_1 (p0 : T_extent_Set) (p1 : Int) : Option (Int × T_extent_Set) :=
  (g32_1 p0 p1).bind fun x12491 => (if x12491 ≠ 0 then (some (x12491, p0)) else ((g13_1 p0 p1).bind fun x12507 => (if ¬ (x12507 = true) then (some (4, p0)) else ((getI p0.w (IntKind.i64.wrap (Int.tdiv p1 64))).bind fun x12520 => ((g33 p1).bind fun x12528 => ((getI p0.w (IntKind.i64.wrap (Int.tdiv p1 64))).bind fun x12535 => ((setI p0.w (IntKind.i64.wrap (Int.tdiv p1 64)) (andNotI .u64 x12520 x12528)).bind fun y12542 => (some (0, (T_extent_Set.mk p0.n y12542))))))))))

-- (*incipit/extent.Set).Run (('obj', 53, ('.', 'own')), '.')
def g15_1_j1 (x13650 : Int) : Option Int :=
  some x13650
def g15_1_j3 (p0 : T_extent_Set) (p1 : Int) (x13743 : Int) (rec13790 : Int → Option Int) (x13804 : Int) : Option Int :=
  if (IntKind.i64.wrap (x13804 - x13743)) ≥ p1 then (g15_1_j1 x13743) else ((g27_1 p0 x13804).bind fun x13829 => (rec13790 x13829))
def g15_1_l2B (p0 : T_extent_Set) (p1 : Int) (rec13790 : Int → Option Int) (x13743 : Int) : Option Int :=
  if x13743 ≥ 0 then ((g27 x13743).bind fun x13795 => (if x13795 < 0 then (g15_1_j3 p0 p1 x13743 rec13790 p0.n) else (g15_1_j3 p0 p1 x13743 rec13790 x13795))) else (g15_1_j1 (-1))
def g15_1_l2 (p0 : T_extent_Set) (p1 : Int) : Nat → Int → Option Int
  | 0, _ => none
  | n + 1, x13743 => g15_1_l2B p0 p1 (g15_1_l2 p0 p1 n) x13743
def g15_1_j5 (p0 : T_extent_Set) (p1 : Int) (x13896 : Int) (rec13943 : Int → Option Int) (x13957 : Int) : Option Int :=
  if (IntKind.i64.wrap (x13957 - x13896)) ≥ p1 then (g15_1_j1 x13896) else ((g27_1 p0 x13957).bind fun x13982 => (rec13943 x13982))
def g15_1_l4B (p0 : T_extent_Set) (p1 : Int) (x13681 : T_extent_Set) (rec13943 : Int → Option Int) (x13896 : Int) : Option Int :=
  if x13896 ≥ 0 then ((g27_1 x13681 x13896).bind fun x13948 => (if x13948 < 0 then (g15_1_j5 p0 p1 x13896 rec13943 p0.n) else (g15_1_j5 p0 p1 x13896 rec13943 x13948))) else (g15_1_j1 (-1))
def g15_1_l4 (p0 : T_extent_Set) (p1 : Int) (x13681 : T_extent_Set) : Nat → Int → Option Int
  | 0, _ => none
  | n + 1, x13896 => g15_1_l4B p0 p1 x13681 (g15_1_l4 p0 p1 x13681 n) x13896
def g15_1 (p0 : T_extent_Set) (p1 : Int) : Option Int :=
  if p1 < 1 then (some (-1)) else ((g16_1 p0).bind fun x13673 => (optC x13673 ((g27_1 p0 0).bind fun x13690 => (g15_1_l2 p0 p1 FUEL x13690)) (fun x13681 => ((g27_1 p0 0).bind fun x13843 => (g15_1_l4 p0 p1 x13681 FUEL x13843)))))

-- incipit/extent.Same (('obj', 53, ('.', 'own')), 'nil')
def g18_1_j2 (x15053 : Bool) : Option Bool :=
  some x15053
def g18_1_j1 (p0 : T_extent_Set) (x15033 : Bool) : Option Bool :=
  if x15033 = true then ((g34_1 p0).bind fun x15058 => (if x15058 = true then ((g34).bind fun x15066 => (g18_1_j2 x15066)) else (g18_1_j2 false))) else (none)
def g18_1 (p0 : T_extent_Set) : Option Bool :=
  (g34_1 p0).bind fun x15085 => (if x15085 = true then (g18_1_j1 p0 true) else ((g34).bind fun x15093 => (g18_1_j1 p0 x15093)))

-- incipit/extent.New 
def g19_j1 (p0 : Int) (x39075 : Bool) : Option ((Option T_extent_Set) × Int) :=
  if x39075 = true then (some (none, 1)) else ((some (IntKind.i64.wrap (Int.tdiv (IntKind.i64.wrap ((IntKind.i64.wrap (p0 + 64)) - 1)) 64))).bind fun x39077 => ((repI x39077 0 8).bind fun x39079 => (some ((some (T_extent_Set.mk p0 x39079)), 0))))
def g19 (p0 : Int) : Option ((Option T_extent_Set) × Int) :=
  if p0 < 1 then (g19_j1 p0 true) else (g19_j1 p0 (decide (p0 > 2048)))

-- incipit/incipitlaw07.Of 
def g10_j1  : Option (Option T_extent_Set) :=
  some none
def g10_l3B (p1 : (List Int)) (rec39503 : Int → Int → (List Int) → Option (Option T_extent_Set)) (x39467 : Int) (x39468 : Int) (x39469 : (List Int)) : Option (Option T_extent_Set) :=
  if x39467 < (p1.length : Int) then ((getI p1 x39467).bind fun x39508 => ((g22_1 (T_extent_Set.mk x39468 x39469) x39508).bind fun x39516 => (rec39503 (IntKind.i64.wrap (x39467 + 1)) x39516.2.n x39516.2.w))) else (some (some (T_extent_Set.mk x39468 x39469)))
def g10_l3 (p1 : (List Int)) : Nat → Int → Int → (List Int) → Option (Option T_extent_Set)
  | 0, _, _, _ => none
  | n + 1, x39467, x39468, x39469 => g10_l3B p1 (g10_l3 p1 n) x39467 x39468 x39469
def g10_j2 (p1 : (List Int)) (x39328 : T_extent_Set) (x39348 : Bool) : Option (Option T_extent_Set) :=
  if x39348 = true then (some none) else (g10_l3 p1 FUEL 0 x39328.n x39328.w)
def g10 (p0 : Int) (p1 : (List Int)) : Option (Option T_extent_Set) :=
  (g19 p0).bind fun x39320 => (optC x39320.1 (if x39320.2 ≠ 0 then (g10_j1) else (g10_j1)) (fun x39328 => (if x39320.2 ≠ 0 then (g10_j2 p1 x39328 true) else (g10_j2 p1 x39328 false))))

-- incipit/incipitref05.Ints 
def g30_l1B (p0 : (List Int)) (p1 : (List Int)) (rec42623 : Int → Option Bool) (x42570 : Int) : Option Bool :=
  if x42570 < (p0.length : Int) then ((getI p0 x42570).bind fun x42657 => ((getI p1 x42570).bind fun x42666 => (if x42657 ≠ x42666 then (some false) else (rec42623 (IntKind.i64.wrap (x42570 + 1)))))) else (some true)
def g30_l1 (p0 : (List Int)) (p1 : (List Int)) : Nat → Int → Option Bool
  | 0, _ => none
  | n + 1, x42570 => g30_l1B p0 p1 (g30_l1 p0 p1 n) x42570
def g30 (p0 : (List Int)) (p1 : (List Int)) : Option Bool :=
  if (p0.length : Int) ≠ (p1.length : Int) then (some false) else (g30_l1 p0 p1 FUEL 0)

-- incipit/incipitlaw07.live 
def g8_j2 (x46101 : Bool) : Option Bool :=
  some x46101
def g8_j1 (x43597 : T_extent_Set) (x46004 : (List Int)) (x46012 : (List Int)) : Option Bool :=
  (g14_1 x43597).bind fun x46106 => (if x46106 = 3 then ((g15_1 x43597 2).bind fun x46114 => (if x46114 = 1 then ((g15_1 x43597 3).bind fun x46122 => (if x46122 = (-1) then ((g30 x46012 ([1, 5] : List Int)).bind fun x46143 => (if x46143 = true then ((g30 x46004 ([2, 1] : List Int)).bind fun x46167 => (g8_j2 x46167)) else (g8_j2 false))) else (g8_j2 false))) else (g8_j2 false))) else (g8_j2 false))
def g8_j4 (x43597 : T_extent_Set) (x46323 : Int) (x46324 : (List Int)) (x46332 : (List Int)) (rec46456 : Int → (List Int) → (List Int) → Option Bool) (x46470 : Int) : Option Bool :=
  if (x46332.length : Int) ≥ 9 then (g8_j1 x43597 x46324 x46332) else ((appI x46332 ([x46323] : List Int) 8).bind fun x46535 => ((appI x46324 ([IntKind.i64.wrap (x46470 - x46323)] : List Int) 8).bind fun x46553 => ((g27_1 x43597 x46470).bind fun x46565 => (rec46456 x46565 x46553 x46535))))
def g8_l3B (x43597 : T_extent_Set) (rec46456 : Int → (List Int) → (List Int) → Option Bool) (x46323 : Int) (x46324 : (List Int)) (x46332 : (List Int)) : Option Bool :=
  if x46323 ≥ 0 then ((g27 x46323).bind fun x46461 => (if x46461 < 0 then (g8_j4 x43597 x46323 x46324 x46332 rec46456 x43597.n) else (g8_j4 x43597 x46323 x46324 x46332 rec46456 x46461))) else (g8_j1 x43597 x46324 x46332)
def g8_l3 (x43597 : T_extent_Set) : Nat → Int → (List Int) → (List Int) → Option Bool
  | 0, _, _, _ => none
  | n + 1, x46323, x46324, x46332 => g8_l3B x43597 (g8_l3 x43597 n) x46323 x46324 x46332
def g8_j6 (x43597 : T_extent_Set) (x46700 : Int) (x46701 : (List Int)) (x46709 : (List Int)) (rec46833 : Int → (List Int) → (List Int) → Option Bool) (x46847 : Int) : Option Bool :=
  if (x46709.length : Int) ≥ 9 then (g8_j1 x43597 x46701 x46709) else ((appI x46709 ([x46700] : List Int) 8).bind fun x46912 => ((appI x46701 ([IntKind.i64.wrap (x46847 - x46700)] : List Int) 8).bind fun x46930 => ((g27_1 x43597 x46847).bind fun x46942 => (rec46833 x46942 x46930 x46912))))
def g8_l5B (x43597 : T_extent_Set) (x46195 : T_extent_Set) (rec46833 : Int → (List Int) → (List Int) → Option Bool) (x46700 : Int) (x46701 : (List Int)) (x46709 : (List Int)) : Option Bool :=
  if x46700 ≥ 0 then ((g27_1 x46195 x46700).bind fun x46838 => (if x46838 < 0 then (g8_j6 x43597 x46700 x46701 x46709 rec46833 x43597.n) else (g8_j6 x43597 x46700 x46701 x46709 rec46833 x46838))) else (g8_j1 x43597 x46701 x46709)
def g8_l5 (x43597 : T_extent_Set) (x46195 : T_extent_Set) : Nat → Int → (List Int) → (List Int) → Option Bool
  | 0, _, _, _ => none
  | n + 1, x46700, x46701, x46709 => g8_l5B x43597 x46195 (g8_l5 x43597 x46195 n) x46700 x46701 x46709
def g8  : Option Bool :=
  (g10 8 ([5, 1, 2] : List Int)).bind fun x43587 => (optC x43587 (some false) (fun x43597 => ((g16_1 x43597).bind fun x46187 => (optC x46187 ((g27_1 x43597 0).bind fun x46204 => (g8_l3 x43597 FUEL x46204 ([] : List Int) ([] : List Int))) (fun x46195 => ((g27_1 x43597 0).bind fun x46581 => (g8_l5 x43597 x46195 FUEL x46581 ([] : List Int) ([] : List Int))))))))

-- incipit/incipitlaw07.ExtentNone 
def g7_j4 (x83512 : Int) (x83513 : Int) (x83514 : Int) (x83515 : Bool) (x83516 : Bool) (x83517 : Bool) (x83518 : Bool) (x83519 : Bool) (x83520 : Bool) (x83521 : Bool) (x83522 : Bool) (x83523 : Bool) (x83524 : Bool) (x83525 : Bool) (x83526 : Bool) (x83527 : Bool) (x83528 : Bool) (x83529 : Bool) (x83530 : Bool) (x83531 : Bool) (x83532 : Bool) (x83533 : Bool) (x83534 : Bool) (x83535 : Bool) (x83536 : Int) (x83537 : (List Int)) : Option Bool :=
  if x83535 = true then (some false) else ((g8).bind fun x83587 => (if x83587 = true then ((g10 8 []).bind fun x83595 => (optC x83595 ((g18).bind fun x83612 => (some (decide (¬ (x83612 = true))))) (fun x83603 => ((g18_1 x83603).bind fun x83619 => (some (decide (¬ (x83619 = true)))))))) else (some false)))
def g7_j5 (x82420 : (List Int)) (x83628 : Int) (x83635 : Int) (x83643 : (Int × T_extent_Set)) (x83658 : (Int × T_extent_Set)) (x83673 : Bool) (x83681 : Int) (x83689 : Int) (x84418 : (List Int)) : Option Bool :=
  if (x84418.length : Int) ≠ 0 then (g7_j4 x83628 x83635 (IntKind.i64.wrap (x83628 + x83635)) (decide ((IntKind.i64.wrap (x83628 + x83635)) ≠ 0)) false (decide (x83643.1 ≠ 2)) false (decide (x83658.1 ≠ 2)) false x83673 false (decide (x83681 ≠ (-1))) false (decide (x83689 ≠ (-1))) false (decide ((x84418.length : Int) ≠ 0)) true true true true true true true true x83658.2.n x83658.2.w) else (if (x82420.length : Int) ≠ 0 then (g7_j4 x83628 x83635 (IntKind.i64.wrap (x83628 + x83635)) (decide ((IntKind.i64.wrap (x83628 + x83635)) ≠ 0)) false (decide (x83643.1 ≠ 2)) false (decide (x83658.1 ≠ 2)) false x83673 false (decide (x83681 ≠ (-1))) false (decide (x83689 ≠ (-1))) false (decide ((x84418.length : Int) ≠ 0)) false (decide ((x82420.length : Int) ≠ 0)) true true true true true true x83658.2.n x83658.2.w) else ((g16_1 x83658.2).bind fun x84432 => (optC x84432 ((g21_1 x83658.2).bind fun x84449 => (optC x84449 ((g18_1 x83658.2).bind fun x84466 => (g7_j4 x83628 x83635 (IntKind.i64.wrap (x83628 + x83635)) (decide ((IntKind.i64.wrap (x83628 + x83635)) ≠ 0)) false (decide (x83643.1 ≠ 2)) false (decide (x83658.1 ≠ 2)) false x83673 false (decide (x83681 ≠ (-1))) false (decide (x83689 ≠ (-1))) false (decide ((x84418.length : Int) ≠ 0)) false (decide ((x82420.length : Int) ≠ 0)) false false false false false (decide (¬ (x84466 = true))) x83658.2.n x83658.2.w)) (fun x84457 => (g7_j4 x83628 x83635 (IntKind.i64.wrap (x83628 + x83635)) (decide ((IntKind.i64.wrap (x83628 + x83635)) ≠ 0)) false (decide (x83643.1 ≠ 2)) false (decide (x83658.1 ≠ 2)) false x83673 false (decide (x83681 ≠ (-1))) false (decide (x83689 ≠ (-1))) false (decide ((x84418.length : Int) ≠ 0)) false (decide ((x82420.length : Int) ≠ 0)) false false false true true true x83658.2.n x83658.2.w)))) (fun x84440 => (g7_j4 x83628 x83635 (IntKind.i64.wrap (x83628 + x83635)) (decide ((IntKind.i64.wrap (x83628 + x83635)) ≠ 0)) false (decide (x83643.1 ≠ 2)) false (decide (x83658.1 ≠ 2)) false x83673 false (decide (x83681 ≠ (-1))) false (decide (x83689 ≠ (-1))) false (decide ((x84418.length : Int) ≠ 0)) false (decide ((x82420.length : Int) ≠ 0)) false true true true true true x83658.2.n x83658.2.w)))))
def g7_l6B (x82420 : (List Int)) (x83628 : Int) (x83635 : Int) (x83643 : (Int × T_extent_Set)) (x83658 : (Int × T_extent_Set)) (x83673 : Bool) (x83681 : Int) (x83689 : Int) (rec84627 : Int → (List Int) → Option Bool) (x84551 : Int) (x84552 : (List Int)) : Option Bool :=
  if x84551 ≥ 0 then (if (x84552.length : Int) ≥ 9 then (g7_j5 x82420 x83628 x83635 x83643 x83658 x83673 x83681 x83689 x84552) else ((appI x84552 ([x84551] : List Int) 8).bind fun x84678 => ((g27_1 x83658.2 (IntKind.i64.wrap (x84551 + 1))).bind fun x84690 => (rec84627 x84690 x84678)))) else (g7_j5 x82420 x83628 x83635 x83643 x83658 x83673 x83681 x83689 x84552)
def g7_l6 (x82420 : (List Int)) (x83628 : Int) (x83635 : Int) (x83643 : (Int × T_extent_Set)) (x83658 : (Int × T_extent_Set)) (x83673 : Bool) (x83681 : Int) (x83689 : Int) : Nat → Int → (List Int) → Option Bool
  | 0, _, _ => none
  | n + 1, x84551, x84552 => g7_l6B x82420 x83628 x83635 x83643 x83658 x83673 x83681 x83689 (g7_l6 x82420 x83628 x83635 x83643 x83658 x83673 x83681 x83689 n) x84551 x84552
def g7_j3 (p0 : Int) (x82404 : (List Int)) (x82412 : (List Int)) (x82420 : (List Int)) : Option Bool :=
  (g17_1 (T_extent_Set.mk 0 x82404)).bind fun x83628 => ((g14_1 (T_extent_Set.mk 0 x82404)).bind fun x83635 => (if (IntKind.i64.wrap (x83628 + x83635)) ≠ 0 then (g7_j4 x83628 x83635 (IntKind.i64.wrap (x83628 + x83635)) (decide ((IntKind.i64.wrap (x83628 + x83635)) ≠ 0)) true true true true true true true true true true true true true true true true true true true true 0 x82404) else ((g22_1 (T_extent_Set.mk 0 x82404) p0).bind fun x83643 => (if x83643.1 ≠ 2 then (g7_j4 x83628 x83635 (IntKind.i64.wrap (x83628 + x83635)) (decide ((IntKind.i64.wrap (x83628 + x83635)) ≠ 0)) false (decide (x83643.1 ≠ 2)) true true true true true true true true true true true true true true true true true true x83643.2.n x83643.2.w) else ((g23_1 x83643.2 p0).bind fun x83658 => (if x83658.1 ≠ 2 then (g7_j4 x83628 x83635 (IntKind.i64.wrap (x83628 + x83635)) (decide ((IntKind.i64.wrap (x83628 + x83635)) ≠ 0)) false (decide (x83643.1 ≠ 2)) false (decide (x83658.1 ≠ 2)) true true true true true true true true true true true true true true true true x83658.2.n x83658.2.w) else ((g13_1 x83658.2 p0).bind fun x83673 => (if x83673 = true then (g7_j4 x83628 x83635 (IntKind.i64.wrap (x83628 + x83635)) (decide ((IntKind.i64.wrap (x83628 + x83635)) ≠ 0)) false (decide (x83643.1 ≠ 2)) false (decide (x83658.1 ≠ 2)) false x83673 true true true true true true true true true true true true true true x83658.2.n x83658.2.w) else ((g27_1 x83658.2 p0).bind fun x83681 => (if x83681 ≠ (-1) then (g7_j4 x83628 x83635 (IntKind.i64.wrap (x83628 + x83635)) (decide ((IntKind.i64.wrap (x83628 + x83635)) ≠ 0)) false (decide (x83643.1 ≠ 2)) false (decide (x83658.1 ≠ 2)) false x83673 false (decide (x83681 ≠ (-1))) true true true true true true true true true true true true x83658.2.n x83658.2.w) else ((g15_1 x83658.2 p0).bind fun x83689 => (if x83689 ≠ (-1) then (g7_j4 x83628 x83635 (IntKind.i64.wrap (x83628 + x83635)) (decide ((IntKind.i64.wrap (x83628 + x83635)) ≠ 0)) false (decide (x83643.1 ≠ 2)) false (decide (x83658.1 ≠ 2)) false x83673 false (decide (x83681 ≠ (-1))) false (decide (x83689 ≠ (-1))) true true true true true true true true true true x83658.2.n x83658.2.w) else ((g27_1 x83658.2 0).bind fun x84483 => (g7_l6 x82420 x83628 x83635 x83643 x83658 x83673 x83681 x83689 FUEL x84483 ([] : List Int)))))))))))))))
def g7_j8 (p0 : Int) (x84849 : Int) (x84850 : (List Int)) (x84858 : (List Int)) (rec84982 : Int → (List Int) → (List Int) → Option Bool) (x84996 : Int) : Option Bool :=
  if (x84858.length : Int) ≥ 9 then (g7_j3 p0 ([] : List Int) x84850 x84858) else ((appI x84858 ([x84849] : List Int) 8).bind fun x85061 => ((appI x84850 ([IntKind.i64.wrap (x84996 - x84849)] : List Int) 8).bind fun x85079 => ((g27_1 (T_extent_Set.mk 0 ([] : List Int)) x84996).bind fun x85091 => (rec84982 x85091 x85079 x85061))))
def g7_l7B (p0 : Int) (rec84982 : Int → (List Int) → (List Int) → Option Bool) (x84849 : Int) (x84850 : (List Int)) (x84858 : (List Int)) : Option Bool :=
  if x84849 ≥ 0 then ((g27 x84849).bind fun x84987 => (if x84987 < 0 then (g7_j8 p0 x84849 x84850 x84858 rec84982 0) else (g7_j8 p0 x84849 x84850 x84858 rec84982 x84987))) else (g7_j3 p0 ([] : List Int) x84850 x84858)
def g7_l7 (p0 : Int) : Nat → Int → (List Int) → (List Int) → Option Bool
  | 0, _, _, _ => none
  | n + 1, x84849, x84850, x84858 => g7_l7B p0 (g7_l7 p0 n) x84849 x84850 x84858
def g7_j10 (p0 : Int) (x85226 : Int) (x85227 : (List Int)) (x85235 : (List Int)) (rec85359 : Int → (List Int) → (List Int) → Option Bool) (x85373 : Int) : Option Bool :=
  if (x85235.length : Int) ≥ 9 then (g7_j3 p0 ([] : List Int) x85227 x85235) else ((appI x85235 ([x85226] : List Int) 8).bind fun x85438 => ((appI x85227 ([IntKind.i64.wrap (x85373 - x85226)] : List Int) 8).bind fun x85456 => ((g27_1 (T_extent_Set.mk 0 ([] : List Int)) x85373).bind fun x85468 => (rec85359 x85468 x85456 x85438))))
def g7_l9B (p0 : Int) (x84721 : T_extent_Set) (rec85359 : Int → (List Int) → (List Int) → Option Bool) (x85226 : Int) (x85227 : (List Int)) (x85235 : (List Int)) : Option Bool :=
  if x85226 ≥ 0 then ((g27_1 x84721 x85226).bind fun x85364 => (if x85364 < 0 then (g7_j10 p0 x85226 x85227 x85235 rec85359 0) else (g7_j10 p0 x85226 x85227 x85235 rec85359 x85364))) else (g7_j3 p0 ([] : List Int) x85227 x85235)
def g7_l9 (p0 : Int) (x84721 : T_extent_Set) : Nat → Int → (List Int) → (List Int) → Option Bool
  | 0, _, _, _ => none
  | n + 1, x85226, x85227, x85235 => g7_l9B p0 x84721 (g7_l9 p0 x84721 n) x85226 x85227 x85235
def g7_j2 (p0 : Int) (x74561 : Int) (x74562 : Int) (x74563 : Int) (x74564 : Bool) (x74565 : Bool) (x74566 : Bool) (x74567 : Bool) (x74568 : Bool) (x74569 : Bool) (x74570 : Bool) (x74571 : Bool) (x74572 : Bool) (x74573 : Bool) (x74574 : Bool) (x74575 : Bool) (x74576 : Bool) (x74577 : Bool) (x74578 : Bool) (x74579 : Bool) (x74580 : Bool) (x74581 : Bool) (x74582 : Bool) (x74583 : Bool) (x74584 : Bool) : Option Bool :=
  if x74584 = true then (some false) else ((g16_1 (T_extent_Set.mk 0 ([] : List Int))).bind fun x84713 => (optC x84713 ((g27_1 (T_extent_Set.mk 0 ([] : List Int)) 0).bind fun x84730 => (g7_l7 p0 FUEL x84730 ([] : List Int) ([] : List Int))) (fun x84721 => ((g27_1 (T_extent_Set.mk 0 ([] : List Int)) 0).bind fun x85107 => (g7_l9 p0 x84721 FUEL x85107 ([] : List Int) ([] : List Int))))))
def g7_j11 (p0 : Int) (x73503 : (List Int)) (x85486 : Int) (x85493 : Int) (x85501 : Int) (x85509 : Int) (x85517 : Bool) (x85525 : Int) (x85533 : Int) (x86262 : (List Int)) : Option Bool :=
  if (x86262.length : Int) ≠ 0 then (g7_j2 p0 x85486 x85493 (IntKind.i64.wrap (x85486 + x85493)) (decide ((IntKind.i64.wrap (x85486 + x85493)) ≠ 0)) false (decide (x85501 ≠ 2)) false (decide (x85509 ≠ 2)) false x85517 false (decide (x85525 ≠ (-1))) false (decide (x85533 ≠ (-1))) false (decide ((x86262.length : Int) ≠ 0)) true true true true true true true true) else (if (x73503.length : Int) ≠ 0 then (g7_j2 p0 x85486 x85493 (IntKind.i64.wrap (x85486 + x85493)) (decide ((IntKind.i64.wrap (x85486 + x85493)) ≠ 0)) false (decide (x85501 ≠ 2)) false (decide (x85509 ≠ 2)) false x85517 false (decide (x85525 ≠ (-1))) false (decide (x85533 ≠ (-1))) false (decide ((x86262.length : Int) ≠ 0)) false (decide ((x73503.length : Int) ≠ 0)) true true true true true true) else ((g16).bind fun x86276 => ((g21).bind fun x86283 => ((g18).bind fun x86290 => (g7_j2 p0 x85486 x85493 (IntKind.i64.wrap (x85486 + x85493)) (decide ((IntKind.i64.wrap (x85486 + x85493)) ≠ 0)) false (decide (x85501 ≠ 2)) false (decide (x85509 ≠ 2)) false x85517 false (decide (x85525 ≠ (-1))) false (decide (x85533 ≠ (-1))) false (decide ((x86262.length : Int) ≠ 0)) false (decide ((x73503.length : Int) ≠ 0)) false false false false false (decide (¬ (x86290 = true))))))))
def g7_l12B (p0 : Int) (x73503 : (List Int)) (x85486 : Int) (x85493 : Int) (x85501 : Int) (x85509 : Int) (x85517 : Bool) (x85525 : Int) (x85533 : Int) (rec86451 : Int → (List Int) → Option Bool) (x86375 : Int) (x86376 : (List Int)) : Option Bool :=
  if x86375 ≥ 0 then (if (x86376.length : Int) ≥ 9 then (g7_j11 p0 x73503 x85486 x85493 x85501 x85509 x85517 x85525 x85533 x86376) else ((appI x86376 ([x86375] : List Int) 8).bind fun x86502 => ((g27 (IntKind.i64.wrap (x86375 + 1))).bind fun x86514 => (rec86451 x86514 x86502)))) else (g7_j11 p0 x73503 x85486 x85493 x85501 x85509 x85517 x85525 x85533 x86376)
def g7_l12 (p0 : Int) (x73503 : (List Int)) (x85486 : Int) (x85493 : Int) (x85501 : Int) (x85509 : Int) (x85517 : Bool) (x85525 : Int) (x85533 : Int) : Nat → Int → (List Int) → Option Bool
  | 0, _, _ => none
  | n + 1, x86375, x86376 => g7_l12B p0 x73503 x85486 x85493 x85501 x85509 x85517 x85525 x85533 (g7_l12 p0 x73503 x85486 x85493 x85501 x85509 x85517 x85525 x85533 n) x86375 x86376
def g7_j1 (p0 : Int) (x73495 : (List Int)) (x73503 : (List Int)) : Option Bool :=
  (g17).bind fun x85486 => ((g14).bind fun x85493 => (if (IntKind.i64.wrap (x85486 + x85493)) ≠ 0 then (g7_j2 p0 x85486 x85493 (IntKind.i64.wrap (x85486 + x85493)) (decide ((IntKind.i64.wrap (x85486 + x85493)) ≠ 0)) true true true true true true true true true true true true true true true true true true true true) else ((g22 p0).bind fun x85501 => (if x85501 ≠ 2 then (g7_j2 p0 x85486 x85493 (IntKind.i64.wrap (x85486 + x85493)) (decide ((IntKind.i64.wrap (x85486 + x85493)) ≠ 0)) false (decide (x85501 ≠ 2)) true true true true true true true true true true true true true true true true true true) else ((g23 p0).bind fun x85509 => (if x85509 ≠ 2 then (g7_j2 p0 x85486 x85493 (IntKind.i64.wrap (x85486 + x85493)) (decide ((IntKind.i64.wrap (x85486 + x85493)) ≠ 0)) false (decide (x85501 ≠ 2)) false (decide (x85509 ≠ 2)) true true true true true true true true true true true true true true true true) else ((g13 p0).bind fun x85517 => (if x85517 = true then (g7_j2 p0 x85486 x85493 (IntKind.i64.wrap (x85486 + x85493)) (decide ((IntKind.i64.wrap (x85486 + x85493)) ≠ 0)) false (decide (x85501 ≠ 2)) false (decide (x85509 ≠ 2)) false x85517 true true true true true true true true true true true true true true) else ((g27 p0).bind fun x85525 => (if x85525 ≠ (-1) then (g7_j2 p0 x85486 x85493 (IntKind.i64.wrap (x85486 + x85493)) (decide ((IntKind.i64.wrap (x85486 + x85493)) ≠ 0)) false (decide (x85501 ≠ 2)) false (decide (x85509 ≠ 2)) false x85517 false (decide (x85525 ≠ (-1))) true true true true true true true true true true true true) else ((g15 p0).bind fun x85533 => (if x85533 ≠ (-1) then (g7_j2 p0 x85486 x85493 (IntKind.i64.wrap (x85486 + x85493)) (decide ((IntKind.i64.wrap (x85486 + x85493)) ≠ 0)) false (decide (x85501 ≠ 2)) false (decide (x85509 ≠ 2)) false x85517 false (decide (x85525 ≠ (-1))) false (decide (x85533 ≠ (-1))) true true true true true true true true true true) else ((g27 0).bind fun x86307 => (g7_l12 p0 x73503 x85486 x85493 x85501 x85509 x85517 x85525 x85533 FUEL x86307 ([] : List Int)))))))))))))))
def g7_l13B (p0 : Int) (rec86787 : Int → (List Int) → (List Int) → Option Bool) (x86658 : Int) (x86659 : (List Int)) (x86667 : (List Int)) : Option Bool :=
  if x86658 ≥ 0 then ((g27 x86658).bind fun x86792 => (if x86792 < 0 then (none) else (if (x86667.length : Int) ≥ 9 then (g7_j1 p0 x86659 x86667) else ((appI x86667 ([x86658] : List Int) 8).bind fun x86865 => ((appI x86659 ([IntKind.i64.wrap (x86792 - x86658)] : List Int) 8).bind fun x86883 => ((g27 x86792).bind fun x86895 => (rec86787 x86895 x86883 x86865))))))) else (g7_j1 p0 x86659 x86667)
def g7_l13 (p0 : Int) : Nat → Int → (List Int) → (List Int) → Option Bool
  | 0, _, _, _ => none
  | n + 1, x86658, x86659, x86667 => g7_l13B p0 (g7_l13 p0 n) x86658 x86659 x86667
def g7 (p0 : Int) : Option Bool :=
  (g16).bind fun x86536 => ((g27 0).bind fun x86543 => (g7_l13 p0 FUEL x86543 ([] : List Int) ([] : List Int)))

end Go.Proofs.YtgcielbnmlfjbaaDoor
