/- PRINTED BY sy.py: what each Go function computes, in plain Lean. -/
import Derived.Test.YtjkghheeeiacmaaDoorSXs
namespace Go.Proofs.YtjkghheeeiacmaaDoor
open Go Go.SX Go.RowKit
set_option maxRecDepth 100000
set_option linter.unusedVariables false
def TAB0 : List Int := [0, 274646895, 549293790, 820201905, 1098587580, 1361435347, 1640403810, 1905808397, 2197175160, 2460548119, 2722870694, 2987750089, 3280807620, 3553878443, 3811616794, 4084100981]
def TAB2 : List Int := [128, 191, 160, 191, 128, 159, 144, 191, 128, 143, 0, 0, 0, 0, 0, 0, 0, 0, 0, 0, 0, 0, 0, 0, 0, 0, 0, 0, 0, 0, 0, 0]
structure T_api_Frame where
  Kind : Int
  Page : Int
  Epoch : Int
  Data : (List Int)
  deriving DecidableEq
structure T_pack_Reader where
  b : (List Int)
  err : Int
  made : Bool
  deriving DecidableEq
-- incipit/pack.Read 
def g34 (p0 : (List Int)) : Option T_pack_Reader :=
  (repI (IntKind.i64.wrap ((p0.length : Int) + 0)) 0 1).bind fun x267 => ((some (copyI x267 0 (x267.length : Int) p0)).bind fun x284 => (if (0 : Int) ≤ (p0.length : Int) ∧ (p0.length : Int) ≤ (x284.length : Int) ∧ (x284.length : Int) ≤ (x284.length : Int) then (some (T_pack_Reader.mk x284 0 true)) else none))

-- (*incipit/pack.Reader).none (('obj', 76, ('own', '.', '.')),)
def g49 (p0 : T_pack_Reader) : Option Bool :=
  if ¬ (p0.made = true) then (some true) else (some (decide (p0.err ≠ 0)))

-- (*incipit/pack.Reader).fails (('obj', 76, ('own', '.', '.')), '.')
def g50 (p0 : T_pack_Reader) (p1 : Int) : Option T_pack_Reader :=
  some (T_pack_Reader.mk p0.b p1 p0.made)

-- (*incipit/pack.Reader).next (('obj', 76, ('own', '.', '.')), '.')
def g51 (p0 : T_pack_Reader) (p1 : Int) : Option ((List Int) × T_pack_Reader) :=
  (g49 p0).bind fun x498 => (if x498 = true then (some ([], p0)) else (if p1 > (p0.b.length : Int) then ((g50 p0 10).bind fun x530 => (some ([], x530))) else (if p1 ≤ p1 ∧ p1 ≤ (p0.b.length : Int) then ((cutI p0.b 0 p1).bind fun y552 => ((cutI p0.b p1 (p0.b.length : Int)).bind fun y563 => (some (y552, (T_pack_Reader.mk y563 p0.err p0.made))))) else none)))

-- (*incipit/pack.Reader).number (('obj', 76, ('own', '.', '.')), '.')
def g48_l1B (x753 : ((List Int) × T_pack_Reader)) (rec792 : Int → Int → Option (Int × T_pack_Reader)) (x780 : Int) (x781 : Int) : Option (Int × T_pack_Reader) :=
  if x781 < (x753.1.length : Int) then ((getI x753.1 x781).bind fun x797 => (rec792 (orI .u64 (shlI .u64 x780 8) (IntKind.u64.wrap x797)) (IntKind.i64.wrap (x781 + 1)))) else (some (x780, x753.2))
def g48_l1 (x753 : ((List Int) × T_pack_Reader)) : Nat → Int → Int → Option (Int × T_pack_Reader)
  | 0, _, _ => none
  | n + 1, x780, x781 => g48_l1B x753 (g48_l1 x753 n) x780 x781
def g48 (p0 : T_pack_Reader) (p1 : Int) : Option (Int × T_pack_Reader) :=
  (g51 p0 p1).bind fun x753 => (g48_l1 x753 FUEL 0 0)

-- (*incipit/pack.Reader).U32 (('obj', 76, ('own', '.', '.')),)
def g35 (p0 : T_pack_Reader) : Option (Int × T_pack_Reader) :=
  (g48 p0 4).bind fun x830 => (some (IntKind.u32.wrap x830.1, x830.2))

-- (*incipit/pack.Reader).none (('obj', 76, ('ro', '.', '.')),)
def g49_1 (p0 : T_pack_Reader) : Option Bool :=
  if ¬ (p0.made = true) then (some true) else (some (decide (p0.err ≠ 0)))

-- (*incipit/pack.Reader).fails (('obj', 76, ('ro', '.', '.')), '.')
def g50_1 (p0 : T_pack_Reader) (p1 : Int) : Option T_pack_Reader :=
  some (T_pack_Reader.mk p0.b p1 p0.made)

-- (*incipit/pack.Reader).next (('obj', 76, ('ro', '.', '.')), '.')
def g51_1 (p0 : T_pack_Reader) (p1 : Int) : Option ((List Int) × T_pack_Reader) :=
  (g49_1 p0).bind fun x979 => (if x979 = true then (some ([], p0)) else (if p1 > (p0.b.length : Int) then ((g50_1 p0 10).bind fun x1000 => (some ([], x1000))) else (if p1 ≤ p1 ∧ p1 ≤ (p0.b.length : Int) then ((cutI p0.b 0 p1).bind fun y1011 => ((cutI p0.b p1 (p0.b.length : Int)).bind fun y1022 => (some (y1011, (T_pack_Reader.mk y1022 p0.err p0.made))))) else none)))

-- (*incipit/pack.Reader).number (('obj', 76, ('ro', '.', '.')), '.')
def g48_1_l1B (x1209 : ((List Int) × T_pack_Reader)) (rec1248 : Int → Int → Option (Int × T_pack_Reader)) (x1236 : Int) (x1237 : Int) : Option (Int × T_pack_Reader) :=
  if x1237 < (x1209.1.length : Int) then ((getI x1209.1 x1237).bind fun x1253 => (rec1248 (orI .u64 (shlI .u64 x1236 8) (IntKind.u64.wrap x1253)) (IntKind.i64.wrap (x1237 + 1)))) else (some (x1236, x1209.2))
def g48_1_l1 (x1209 : ((List Int) × T_pack_Reader)) : Nat → Int → Int → Option (Int × T_pack_Reader)
  | 0, _, _ => none
  | n + 1, x1236, x1237 => g48_1_l1B x1209 (g48_1_l1 x1209 n) x1236 x1237
def g48_1 (p0 : T_pack_Reader) (p1 : Int) : Option (Int × T_pack_Reader) :=
  (g51_1 p0 p1).bind fun x1209 => (g48_1_l1 x1209 FUEL 0 0)

-- (*incipit/pack.Reader).U8 (('obj', 76, ('ro', '.', '.')),)
def g36 (p0 : T_pack_Reader) : Option (Int × T_pack_Reader) :=
  (g48_1 p0 1).bind fun x1283 => (some (IntKind.u8.wrap x1283.1, x1283.2))

-- (*incipit/pack.Reader).U16 (('obj', 76, ('ro', '.', '.')),)
def g37 (p0 : T_pack_Reader) : Option (Int × T_pack_Reader) :=
  (g48_1 p0 2).bind fun x1346 => (some (IntKind.u16.wrap x1346.1, x1346.2))

-- (*incipit/pack.Reader).U64 (('obj', 76, ('ro', '.', '.')),)
def g38 (p0 : T_pack_Reader) : Option (Int × T_pack_Reader) :=
  (g48_1 p0 8).bind fun x1393 => (some (x1393.1, x1393.2))

-- (*incipit/pack.Reader).Raw (('obj', 76, ('ro', '.', '.')), '.')
def g39 (p0 : T_pack_Reader) (p1 : Int) : Option ((List Int) × T_pack_Reader) :=
  (g49_1 p0).bind fun x1496 => (if x1496 = true then (some ([], p0)) else (if p1 < 0 then ((g50_1 p0 1).bind fun x1517 => (some ([], x1517))) else ((g51_1 p0 p1).bind fun x1528 => (some (x1528.1, x1528.2)))))

-- incipit/frame.take 
def g25 (p0 : (List Int)) : Option (T_api_Frame × Int) :=
  (g34 p0).bind fun x1585 => ((g35 x1585).bind fun x1603 => ((g36 x1603.2).bind fun x1614 => ((g36 x1614.2).bind fun x1630 => ((g37 x1630.2).bind fun x1641 => ((g38 x1641.2).bind fun x1652 => ((g39 x1652.2 240).bind fun x1667 => (some ((T_api_Frame.mk (IntKind.i64.wrap x1614.1) (IntKind.i64.wrap x1641.1) x1652.1 x1667.1), x1603.1))))))))

-- incipit/crc.of 
def g59 (p0 : Int) : Option Int :=
  some (xorI .u32 p0 4294967295)

-- (incipit/crc.register).nibble 
def g66 (p0 : Int) : Option Int :=
  (getI TAB0 (andI .u32 p0 15)).bind fun x1754 => (some (xorI .u32 (shrI .u32 p0 4) x1754))

-- (incipit/crc.register).by 
def g60_l1B (p1 : (List Int)) (rec2056 : Int → Int → Option Int) (x2028 : Int) (x2029 : Int) : Option Int :=
  if x2029 < (p1.length : Int) then ((getI p1 x2029).bind fun x2061 => ((g66 (xorI .u32 x2028 (IntKind.u32.wrap x2061))).bind fun x2069 => ((g66 x2069).bind fun x2076 => (rec2056 x2076 (IntKind.i64.wrap (x2029 + 1)))))) else (some x2028)
def g60_l1 (p1 : (List Int)) : Nat → Int → Int → Option Int
  | 0, _, _ => none
  | n + 1, x2028, x2029 => g60_l1B p1 (g60_l1 p1 n) x2028 x2029
def g60 (p0 : Int) (p1 : (List Int)) : Option Int :=
  g60_l1 p1 FUEL p0 0

-- (incipit/crc.register).sum 
def g61 (p0 : Int) : Option Int :=
  some (xorI .u32 p0 4294967295)

-- incipit/frame.right 
def g27 (p0 : Int) : Option Bool :=
  if p0 ≥ 1 then (some (decide (p0 ≤ 4))) else (some false)

-- incipit/frame.Get 
def g8_j2 (p1 : Int) (x3900 : (T_api_Frame × Int)) (x5266 : Bool) : Option (T_api_Frame × Int) :=
  if x5266 = true then (some ((T_api_Frame.mk 0 0 0 []), 42)) else (if x3900.1.Page ≠ p1 then (some ((T_api_Frame.mk 0 0 0 []), 41)) else (if x3900.1.Page ≥ 2048 then (some ((T_api_Frame.mk 0 0 0 []), 41)) else (some (x3900.1, 0))))
def g8_j1 (p0 : (List Int)) (p1 : Int) (x3900 : (T_api_Frame × Int)) (x5245 : Bool) : Option (T_api_Frame × Int) :=
  if x5245 = true then (some ((T_api_Frame.mk 0 0 0 []), 40)) else ((g27 x3900.1.Kind).bind fun x5283 => (if ¬ (x5283 = true) then (g8_j2 p1 x3900 true) else ((getI (List.take 256 p0) 5).bind fun x5291 => (g8_j2 p1 x3900 (decide (x5291 ≠ 0))))))
def g8 (p0 : (List Int)) (p1 : Int) : Option (T_api_Frame × Int) :=
  if (p0.length : Int) ≠ 256 then (some ((T_api_Frame.mk 0 0 0 []), 1)) else (if 256 ≤ p0.length then ((g25 (List.take 256 p0)).bind fun x3900 => (if (List.take 256 p0) = (List.replicate 256 (0 : Int)) then (g8_j1 p0 p1 x3900 true) else (if (0 : Int) ≤ 4 ∧ 4 ≤ ((List.take 256 p0).length : Int) ∧ ((List.take 256 p0).length : Int) ≤ ((List.take 256 p0).length : Int) then ((g59 0).bind fun x5676 => ((cutI (List.take 256 p0) 4 ((List.take 256 p0).length : Int)).bind fun y5704 => ((g60 x5676 y5704).bind fun x5707 => ((g61 x5707).bind fun x5717 => (g8_j1 p0 p1 x3900 (decide (x3900.2 ≠ x5717))))))) else none))) else none)

-- incipit/frame.Check (('agg', ('.', '.', '.', 'ro')),)
def g22_j1 (p0 : T_api_Frame) (x5929 : Bool) : Option Int :=
  if x5929 = true then (some 41) else (if (p0.Data.length : Int) > 240 then (some 3) else (some 0))
def g22 (p0 : T_api_Frame) : Option Int :=
  (g27 p0.Kind).bind fun x5919 => (if ¬ (x5919 = true) then (some 42) else (if p0.Page < 0 then (g22_j1 p0 true) else (g22_j1 p0 (decide (p0.Page ≥ 2048)))))

-- incipit/pack.wide 
def g53_l1B (p0 : (List Int)) (p1 : Int) (p2 : Int) (x6255 : (List Int)) (rec6379 : Int → (List Int) → Option (List Int)) (x6354 : Int) (x6355 : (List Int)) : Option (List Int) :=
  if x6354 < p2 then (if 0 ≤ (IntKind.u64.wrap (IntKind.i64.wrap (8 * x6354))) then ((some (shrI .u64 p1 (IntKind.u64.wrap (IntKind.i64.wrap (8 * x6354))))).bind fun x6385 => (if (0 : Int) ≤ IntKind.i64.wrap ((IntKind.i64.wrap (p2 - 1)) - x6354) ∧ IntKind.i64.wrap ((IntKind.i64.wrap (p2 - 1)) - x6354) < (x6255.length : Int) - (p0.length : Int) then ((getI x6355 ((p0.length : Int) + (IntKind.i64.wrap ((IntKind.i64.wrap (p2 - 1)) - x6354)))).bind fun x6387 => ((setI x6355 ((p0.length : Int) + (IntKind.i64.wrap ((IntKind.i64.wrap (p2 - 1)) - x6354))) (IntKind.u8.wrap x6385)).bind fun y6392 => (rec6379 (IntKind.i64.wrap (x6354 + 1)) y6392))) else none)) else none) else (some x6355)
def g53_l1 (p0 : (List Int)) (p1 : Int) (p2 : Int) (x6255 : (List Int)) : Nat → Int → (List Int) → Option (List Int)
  | 0, _, _ => none
  | n + 1, x6354, x6355 => g53_l1B p0 p1 p2 x6255 (g53_l1 p0 p1 p2 x6255 n) x6354 x6355
def g53 (p0 : (List Int)) (p1 : Int) (p2 : Int) : Option (List Int) :=
  (repI (IntKind.i64.wrap ((p0.length : Int) + p2)) 0 1).bind fun x6238 => ((some (copyI x6238 0 (x6238.length : Int) p0)).bind fun x6255 => (if (0 : Int) ≤ (p0.length : Int) ∧ (p0.length : Int) ≤ (x6255.length : Int) ∧ (x6255.length : Int) ≤ (x6255.length : Int) then (g53_l1 p0 p1 p2 x6255 FUEL 0 x6255) else none))

-- incipit/pack.U16 
def g42 (p0 : (List Int)) (p1 : Int) : Option (List Int) :=
  (g53 p0 (IntKind.u64.wrap p1) 2).bind fun x6427 => (some x6427)

-- incipit/pack.U64 
def g41 (p0 : (List Int)) (p1 : Int) : Option (List Int) :=
  (g53 p0 p1 8).bind fun x6484 => (some x6484)

-- incipit/pack.U32 
def g43 (p0 : (List Int)) (p1 : Int) : Option (List Int) :=
  (g53 p0 (IntKind.u64.wrap p1) 4).bind fun x7057 => (some x7057)

-- incipit/frame.lay (('agg', ('.', '.', '.', 'ro')),)
def g28 (p0 : T_api_Frame) : Option (List Int) :=
  (getI (List.replicate 256 (0 : Int)) 4).bind fun x7592 => ((setI (List.replicate 256 (0 : Int)) 4 (IntKind.u8.wrap p0.Kind)).bind fun y7597 => ((g42 [] (IntKind.u16.wrap p0.Page)).bind fun x7610 => ((g41 x7610 p0.Epoch).bind fun x7628 => ((some (copyI y7597 6 16 x7628)).bind fun x7663 => (if (0 : Int) ≤ 16 ∧ 16 ≤ (x7663.length : Int) ∧ (x7663.length : Int) ≤ (x7663.length : Int) then ((some (copyI x7663 16 (x7663.length : Int) p0.Data)).bind fun x7713 => (if (0 : Int) ≤ 4 ∧ 4 ≤ (x7713.length : Int) ∧ (x7713.length : Int) ≤ (x7713.length : Int) then ((g59 0).bind fun x8569 => ((cutI x7713 4 (x7713.length : Int)).bind fun y8597 => ((g60 x8569 y8597).bind fun x8600 => ((g61 x8600).bind fun x8610 => ((g43 [] x8610).bind fun x8617 => ((some (copyI x7713 0 4 x8617)).bind fun x8639 => (some x8639))))))) else none)) else none)))))

-- incipit/frame.Put (('agg', ('.', '.', '.', 'ro')),)
def g11 (p0 : T_api_Frame) : Option ((List Int) × Int) :=
  (g22 p0).bind fun x8685 => (if x8685 ≠ 0 then (some (([] : List Int), x8685)) else ((g28 p0).bind fun x8694 => (some (x8694, 0))))

-- bytes.Equal 
def g20 (p0 : (List Int)) (p1 : (List Int)) : Option Bool :=
  some (decide ((strOfNums p0).toList = (strOfNums p1).toList))

-- incipit/incipitlaw04.live 
def g9_j2 (x14541 : Bool) : Option Bool :=
  some x14541
def g9_j1 (x12595 : ((List Int) × Int)) (x14487 : Int) (x14488 : Int) (x14489 : Int) (x14490 : (List Int)) (x14495 : Int) : Option Bool :=
  if x12595.2 = 0 then (if x14495 = 0 then (if (x12595.1.length : Int) = 256 then ((cutI x12595.1 4 18).bind fun y14553 => ((g20 y14553 ([2, 0, 0, 5, 0, 0, 0, 0, 0, 0, 0, 1, 7, 8] : List Int)).bind fun x14572 => (if x14572 = true then (if x14489 = 1 then (g9_j2 (decide ((x14490.length : Int) = 240))) else (g9_j2 false)) else (g9_j2 false)))) else (g9_j2 false)) else (g9_j2 false)) else (g9_j2 false)
def g9_j5 (x12595 : ((List Int) × Int)) (x14613 : (T_api_Frame × Int)) (x15987 : Bool) : Option Bool :=
  if x15987 = true then (g9_j1 x12595 0 0 0 [] 41) else (g9_j1 x12595 x14613.1.Kind x14613.1.Page x14613.1.Epoch x14613.1.Data 0)
def g9_j4 (x12595 : ((List Int) × Int)) (x14613 : (T_api_Frame × Int)) (x15979 : Bool) : Option Bool :=
  if x15979 = true then (g9_j1 x12595 0 0 0 [] 42) else (if x14613.1.Page ≠ 5 then (g9_j5 x12595 x14613 true) else (g9_j5 x12595 x14613 (decide (x14613.1.Page ≥ 2048))))
def g9_j3 (x12595 : ((List Int) × Int)) (y14596 : (List Int)) (x14613 : (T_api_Frame × Int)) (x15958 : Bool) : Option Bool :=
  if x15958 = true then (g9_j1 x12595 0 0 0 [] 40) else ((g27 x14613.1.Kind).bind fun x15998 => (if ¬ (x15998 = true) then (g9_j4 x12595 x14613 true) else ((getI (List.take 256 y14596) 5).bind fun x16006 => (g9_j4 x12595 x14613 (decide (x16006 ≠ 0))))))
def g9  : Option Bool :=
  (g11 (T_api_Frame.mk 2 5 1 ([7, 8] : List Int))).bind fun x12595 => (if (x12595.1.length : Int) ≠ 256 then (g9_j1 x12595 0 0 0 [] 1) else (if 256 ≤ x12595.1.length then ((cutI x12595.1 0 (x12595.1.length : Int)).bind fun y14596 => (if 256 ≤ y14596.length then ((g25 (List.take 256 y14596)).bind fun x14613 => (if (List.take 256 y14596) = (List.replicate 256 (0 : Int)) then (g9_j3 x12595 y14596 x14613 true) else (if (0 : Int) ≤ 4 ∧ 4 ≤ ((List.take 256 y14596).length : Int) ∧ ((List.take 256 y14596).length : Int) ≤ ((List.take 256 y14596).length : Int) then ((g59 0).bind fun x16391 => ((cutI (List.take 256 y14596) 4 ((List.take 256 y14596).length : Int)).bind fun y16419 => ((g60 x16391 y16419).bind fun x16422 => ((g61 x16422).bind fun x16432 => (g9_j3 x12595 y14596 x14613 (decide (x14613.2 ≠ x16432))))))) else none))) else none)) else none))

-- incipit/incipitlaw04.short 
def g10_l1B (p0 : (List T_api_Frame)) (rec17222 : Int → Option Bool) (x17153 : Int) : Option Bool :=
  if x17153 < (p0.length : Int) then ((getI p0 x17153).bind fun x17259 => (if (x17259.Data.length : Int) > 3000 then (some false) else (rec17222 (IntKind.i64.wrap (x17153 + 1))))) else (some true)
def g10_l1 (p0 : (List T_api_Frame)) : Nat → Int → Option Bool
  | 0, _ => none
  | n + 1, x17153 => g10_l1B p0 (g10_l1 p0 n) x17153
def g10 (p0 : (List T_api_Frame)) : Option Bool :=
  g10_l1 p0 FUEL 0

-- incipit/incipitlaw04.FrameFault (('agg', ('.', '.', '.', 'ro')), '.', '.')
def g3_j3 (x18042 : Bool) : Option Bool :=
  some x18042
def g3_l6B (p0 : T_api_Frame) (p2 : Int) (x18082 : Int) (rec18236 : Int → (List Int) → Option Bool) (x18201 : Int) (x18202 : (List Int)) : Option Bool :=
  if x18201 < 4 then ((getI x18202 (IntKind.i64.wrap (x18082 + x18201))).bind fun x18241 => (if 0 ≤ (IntKind.u64.wrap (IntKind.i64.wrap (8 * x18201))) then ((some (shrI .u32 p2 (IntKind.u64.wrap (IntKind.i64.wrap (8 * x18201))))).bind fun x18250 => ((getI x18202 (IntKind.i64.wrap (x18082 + x18201))).bind fun x18252 => ((setI x18202 (IntKind.i64.wrap (x18082 + x18201)) (xorI .u8 x18241 (IntKind.u8.wrap x18250))).bind fun y18259 => (rec18236 (IntKind.i64.wrap (x18201 + 1)) y18259)))) else none)) else ((g8 x18202 p0.Page).bind fun x18271 => (some (decide (x18271.2 = 40))))
def g3_l6 (p0 : T_api_Frame) (p2 : Int) (x18082 : Int) : Nat → Int → (List Int) → Option Bool
  | 0, _, _ => none
  | n + 1, x18201, x18202 => g3_l6B p0 p2 x18082 (g3_l6 p0 p2 x18082 n) x18201 x18202
def g3_j5 (p0 : T_api_Frame) (p2 : Int) (x18055 : ((List Int) × Int)) (x18082 : Int) : Option Bool :=
  g3_l6 p0 p2 x18082 FUEL 0 x18055.1
def g3_j4 (p0 : T_api_Frame) (p1 : Int) (p2 : Int) (x18055 : ((List Int) × Int)) (x18074 : Bool) : Option Bool :=
  if x18074 = true then (some true) else (if (x18055.1.length : Int) ≠ 256 then (some false) else (if (Int.tmod p1 2) = 1 then ((some (Int.tmod (IntKind.i64.wrap (IntKind.u16.wrap (Int.tdiv p1 2))) 249)).bind fun x18290 => (g3_j5 p0 p2 x18055 (IntKind.i64.wrap (4 + x18290)))) else (g3_j5 p0 p2 x18055 0)))
def g3_j2 (p0 : T_api_Frame) (p1 : Int) (p2 : Int) (x17895 : Int) (x18029 : Bool) : Option Bool :=
  if x18029 = true then ((g9).bind fun x18047 => (if x18047 = true then (g3_j3 (decide (x17895 = 40))) else (g3_j3 false))) else ((g11 p0).bind fun x18055 => (if x18055.2 ≠ 0 then (g3_j4 p0 p1 p2 x18055 true) else (g3_j4 p0 p1 p2 x18055 (decide (p2 = 0)))))
def g3_j1 (p0 : T_api_Frame) (p1 : Int) (p2 : Int) (x17895 : Int) : Option Bool :=
  (g9).bind fun x18297 => (if ¬ (x18297 = true) then (g3_j2 p0 p1 p2 x17895 true) else (if x17895 ≠ 40 then (g3_j2 p0 p1 p2 x17895 true) else ((g10 ([p0] : List T_api_Frame)).bind fun x18315 => (g3_j2 p0 p1 p2 x17895 (decide (¬ (x18315 = true)))))))
def g3 (p0 : T_api_Frame) (p1 : Int) (p2 : Int) : Option Bool :=
  (repI 256 0 1).bind fun x18331 => ((g8 x18331 p0.Page).bind fun x18346 => (g3_j1 p0 p1 p2 x18346.2))

-- incipit/incipitlaw04.alike (('agg', ('.', '.', '.', 'ro')), ('agg', ('.', '.', '.', 'ro')))
def g12_j1 (x20504 : Bool) : Option Bool :=
  some x20504
def g12 (p0 : T_api_Frame) (p1 : T_api_Frame) : Option Bool :=
  if p0.Kind = p1.Kind then (if p0.Page = p1.Page then (if p0.Epoch = p1.Epoch then ((g20 p0.Data p1.Data).bind fun x20512 => (g12_j1 x20512)) else (g12_j1 false)) else (g12_j1 false)) else (g12_j1 false)

-- incipit/incipitlaw04.FramePlace (('agg', ('.', '.', '.', 'ro')), '.')
def g4_j3 (x24457 : Bool) : Option Bool :=
  some x24457
def g4_j2 (p0 : T_api_Frame) (p1 : Int) (x24430 : Int) (x24431 : Int) (x24432 : Int) (x24433 : (List Int)) (x24438 : Int) : Option Bool :=
  if (decide (x24438 = 0)) = (decide (p1 = p0.Page)) then (if x24438 = 0 then (g4_j3 true) else (if x24438 = 41 then ((g12 (T_api_Frame.mk x24430 x24431 x24432 x24433) (T_api_Frame.mk 0 0 0 [])).bind fun x24465 => (g4_j3 x24465)) else (g4_j3 false))) else (g4_j3 false)
def g4_j6 (p0 : T_api_Frame) (p1 : Int) (x24502 : (T_api_Frame × Int)) (x25876 : Bool) : Option Bool :=
  if x25876 = true then (g4_j2 p0 p1 0 0 0 [] 41) else (g4_j2 p0 p1 x24502.1.Kind x24502.1.Page x24502.1.Epoch x24502.1.Data 0)
def g4_j5 (p0 : T_api_Frame) (p1 : Int) (x24502 : (T_api_Frame × Int)) (x25868 : Bool) : Option Bool :=
  if x25868 = true then (g4_j2 p0 p1 0 0 0 [] 42) else (if x24502.1.Page ≠ p1 then (g4_j6 p0 p1 x24502 true) else (g4_j6 p0 p1 x24502 (decide (x24502.1.Page ≥ 2048))))
def g4_j4 (p0 : T_api_Frame) (p1 : Int) (y24485 : (List Int)) (x24502 : (T_api_Frame × Int)) (x25847 : Bool) : Option Bool :=
  if x25847 = true then (g4_j2 p0 p1 0 0 0 [] 40) else ((g27 x24502.1.Kind).bind fun x25887 => (if ¬ (x25887 = true) then (g4_j5 p0 p1 x24502 true) else ((getI (List.take 256 y24485) 5).bind fun x25895 => (g4_j5 p0 p1 x24502 (decide (x25895 ≠ 0))))))
def g4_j1 (p0 : T_api_Frame) (p1 : Int) (x22527 : Bool) : Option Bool :=
  if x22527 = true then ((g9).bind fun x22531 => (some x22531)) else ((g11 p0).bind fun x22538 => (if x22538.2 ≠ 0 then (some (decide ((x22538.1.length : Int) = 0))) else (if (x22538.1.length : Int) ≠ 256 then (g4_j2 p0 p1 0 0 0 [] 1) else (if 256 ≤ x22538.1.length then ((cutI x22538.1 0 (x22538.1.length : Int)).bind fun y24485 => (if 256 ≤ y24485.length then ((g25 (List.take 256 y24485)).bind fun x24502 => (if (List.take 256 y24485) = (List.replicate 256 (0 : Int)) then (g4_j4 p0 p1 y24485 x24502 true) else (if (0 : Int) ≤ 4 ∧ 4 ≤ ((List.take 256 y24485).length : Int) ∧ ((List.take 256 y24485).length : Int) ≤ ((List.take 256 y24485).length : Int) then ((g59 0).bind fun x26280 => ((cutI (List.take 256 y24485) 4 ((List.take 256 y24485).length : Int)).bind fun y26308 => ((g60 x26280 y26308).bind fun x26311 => ((g61 x26311).bind fun x26321 => (g4_j4 p0 p1 y24485 x24502 (decide (x24502.2 ≠ x26321))))))) else none))) else none)) else none))))
def g4 (p0 : T_api_Frame) (p1 : Int) : Option Bool :=
  (g9).bind fun x26330 => (if ¬ (x26330 = true) then (g4_j1 p0 p1 true) else ((g10 ([p0] : List T_api_Frame)).bind fun x26347 => (g4_j1 p0 p1 (decide (¬ (x26347 = true))))))

-- bytes.Clone 
def g13 (p0 : (List Int)) : Option (List Int) :=
  (appI ([] : List Int) p0 1).bind fun x26467 => (some x26467)

-- slices.Index[[]int,int] 
def g44_l1B (p0 : (List Int)) (p1 : Int) (rec28675 : Int → Option Int) (x28654 : Int) : Option Int :=
  if x28654 < (p0.length : Int) then ((getI p0 x28654).bind fun x28689 => (if p1 = x28689 then (some x28654) else (rec28675 (IntKind.i64.wrap (x28654 + 1))))) else (some (-1))
def g44_l1 (p0 : (List Int)) (p1 : Int) : Nat → Int → Option Int
  | 0, _ => none
  | n + 1, x28654 => g44_l1B p0 p1 (g44_l1 p0 p1 n) x28654
def g44 (p0 : (List Int)) (p1 : Int) : Option Int :=
  g44_l1 p0 p1 FUEL 0

-- slices.Contains[[]int,int] 
def g29 (p0 : (List Int)) (p1 : Int) : Option Bool :=
  (g44 p0 p1).bind fun x28711 => (some (decide (x28711 ≥ 0)))

-- incipit/frame.Want 
def g14_j1 (x28774 : (T_api_Frame × Int)) (x28818 : Bool) : Option (T_api_Frame × Int) :=
  if x28818 = true then (some ((T_api_Frame.mk 0 0 0 []), 42)) else (some (x28774.1, x28774.2))
def g14 (p0 : (List Int)) (p1 : Int) (p2 : (List Int)) : Option (T_api_Frame × Int) :=
  (g8 p0 p1).bind fun x28774 => (if x28774.2 = 0 then ((g29 p2 x28774.1.Kind).bind fun x28829 => (g14_j1 x28774 (decide (¬ (x28829 = true))))) else (g14_j1 x28774 false))

-- incipit/incipitref02.goes 
def g65_l1B (rec33033 : Int → Int → Option Int) (x33027 : Int) (x33028 : Int) : Option Int :=
  if x33028 < 8 then (if (andI .u32 x33027 1) = 1 then (rec33033 (xorI .u32 (shrI .u32 x33027 1) 2197175160) (IntKind.i64.wrap (x33028 + 1))) else (rec33033 (shrI .u32 x33027 1) (IntKind.i64.wrap (x33028 + 1)))) else (some x33027)
def g65_l1  : Nat → Int → Int → Option Int
  | 0, _, _ => none
  | n + 1, x33027, x33028 => g65_l1B (g65_l1 n) x33027 x33028
def g65 (p0 : Int) (p1 : Int) : Option Int :=
  g65_l1 FUEL (xorI .u32 p0 (IntKind.u32.wrap p1)) 0

-- incipit/incipitref02.Add 
def g58_l2B (p1 : (List (List Int))) (x36806 : Int) (rec37187 : Int → Int → Option Int) (rec37504 : Int → Int → Option Int) (x37441 : Int) (x37442 : Int) : Option Int :=
  (getI p1 x36806).bind fun x37522 => (if x37442 < (x37522.length : Int) then ((getI p1 x36806).bind fun x37537 => ((getI x37537 x37442).bind fun x37551 => ((g65 x37441 x37551).bind fun x37559 => (rec37504 x37559 (IntKind.i64.wrap (x37442 + 1)))))) else (rec37187 x37441 (IntKind.i64.wrap (x36806 + 1))))
def g58_l2 (p1 : (List (List Int))) (x36806 : Int) (rec37187 : Int → Int → Option Int) : Nat → Int → Int → Option Int
  | 0, _, _ => none
  | n + 1, x37441, x37442 => g58_l2B p1 x36806 rec37187 (g58_l2 p1 x36806 rec37187 n) x37441 x37442
def g58_l1B (p1 : (List (List Int))) (rec37187 : Int → Int → Option Int) (x36805 : Int) (x36806 : Int) : Option Int :=
  if x36806 < (p1.length : Int) then (g58_l2 p1 x36806 rec37187 FUEL x36805 0) else (some (cplI .u32 x36805))
def g58_l1 (p1 : (List (List Int))) : Nat → Int → Int → Option Int
  | 0, _, _ => none
  | n + 1, x36805, x36806 => g58_l1B p1 (g58_l1 p1 n) x36805 x36806
def g58 (p0 : Int) (p1 : (List (List Int))) : Option Int :=
  g58_l1 p1 FUEL (cplI .u32 p0) 0

-- incipit/incipitref02.One 
def g46 (p0 : (List Int)) : Option Int :=
  (g58 0 ([p0] : List (List Int))).bind fun x37596 => (some x37596)

-- incipit/incipitref02.Seal 
def g32 (p0 : (List Int)) : Option (List Int) :=
  (g46 p0).bind fun x37632 => ((appI ([IntKind.u8.wrap (shrI .u32 x37632 24), IntKind.u8.wrap (shrI .u32 x37632 16), IntKind.u8.wrap (shrI .u32 x37632 8), IntKind.u8.wrap x37632] : List Int) p0 1).bind fun x37647 => (some x37647))

-- incipit/incipitref02.Open 
def g30 (p0 : (List Int)) : Option ((List Int) × Bool) :=
  if (p0.length : Int) < 4 then (some (([] : List Int), false)) else ((cutI p0 4 (p0.length : Int)).bind fun y37708 => ((g32 y37708).bind fun x37718 => (if (strOfNums x37718).toList ≠ (strOfNums p0).toList then (some (([] : List Int), false)) else ((cutI p0 4 (p0.length : Int)).bind fun y37736 => ((appI ([] : List Int) y37736 1).bind fun x37750 => (some (x37750, true)))))))

-- incipit/incipitref04.Get 
def g15_l3B (x38143 : ((List Int) × Bool)) (x38280 : Int) (x38331 : Int) (rec38458 : Int → Int → Option (T_api_Frame × Int)) (x38435 : Int) (x38436 : Int) : Option (T_api_Frame × Int) :=
  if x38435 < 12 then ((getI x38143.1 x38435).bind fun x38468 => ((some (IntKind.u64.wrap ((IntKind.u64.wrap (x38436 * 256)) + (IntKind.u64.wrap x38468)))).bind fun x38476 => (rec38458 (IntKind.i64.wrap (x38435 + 1)) x38476))) else ((cutI x38143.1 12 (x38143.1.length : Int)).bind fun y38482 => (some ((T_api_Frame.mk (IntKind.i64.wrap x38331) x38280 x38436 y38482), 0)))
def g15_l3 (x38143 : ((List Int) × Bool)) (x38280 : Int) (x38331 : Int) : Nat → Int → Int → Option (T_api_Frame × Int)
  | 0, _, _ => none
  | n + 1, x38435, x38436 => g15_l3B x38143 x38280 x38331 (g15_l3 x38143 x38280 x38331 n) x38435 x38436
def g15_j2 (x38143 : ((List Int) × Bool)) (x38280 : Int) (x38293 : Bool) : Option (T_api_Frame × Int) :=
  if x38293 = true then (some ((T_api_Frame.mk 0 0 0 ([] : List Int)), 41)) else ((getI x38143.1 0).bind fun x38331 => (if (0 : Int) ≤ 12 ∧ 12 ≤ (x38143.1.length : Int) ∧ (x38143.1.length : Int) ≤ (x38143.1.length : Int) then (g15_l3 x38143 x38280 x38331 FUEL 4 0) else none))
def g15_j1 (p1 : Int) (x38143 : ((List Int) × Bool)) (x38254 : Bool) : Option (T_api_Frame × Int) :=
  if x38254 = true then (some ((T_api_Frame.mk 0 0 0 ([] : List Int)), 42)) else ((getI x38143.1 2).bind fun x38264 => ((getI x38143.1 3).bind fun x38272 => ((some (IntKind.i64.wrap ((IntKind.i64.wrap ((IntKind.i64.wrap x38264) * 256)) + (IntKind.i64.wrap x38272)))).bind fun x38280 => (if x38280 ≠ p1 then (g15_j2 x38143 x38280 true) else (g15_j2 x38143 x38280 (decide (x38280 ≥ 2048)))))))
def g15 (p0 : (List Int)) (p1 : Int) : Option (T_api_Frame × Int) :=
  if (p0.length : Int) ≠ 256 then (some ((T_api_Frame.mk 0 0 0 ([] : List Int)), 1)) else ((g30 p0).bind fun x38143 => (if ¬ (x38143.2 = true) then (some ((T_api_Frame.mk 0 0 0 ([] : List Int)), 40)) else ((getI x38143.1 0).bind fun x38492 => (if x38492 < 1 then (g15_j1 p1 x38143 true) else ((getI x38143.1 0).bind fun x38501 => (if x38501 > 4 then (g15_j1 p1 x38143 true) else ((getI x38143.1 1).bind fun x38510 => (g15_j1 p1 x38143 (decide (x38510 ≠ 0))))))))))

-- incipit/incipitref04.Want 
def g16_l1B (p2 : (List Int)) (x38858 : (T_api_Frame × Int)) (rec39090 : Int → Option (T_api_Frame × Int)) (x39051 : Int) : Option (T_api_Frame × Int) :=
  if x39051 < (p2.length : Int) then ((getI p2 x39051).bind fun x39117 => (if x39117 = x38858.1.Kind then (some (x38858.1, 0)) else (rec39090 (IntKind.i64.wrap (x39051 + 1))))) else (some ((T_api_Frame.mk 0 0 0 []), 42))
def g16_l1 (p2 : (List Int)) (x38858 : (T_api_Frame × Int)) : Nat → Int → Option (T_api_Frame × Int)
  | 0, _ => none
  | n + 1, x39051 => g16_l1B p2 x38858 (g16_l1 p2 x38858 n) x39051
def g16 (p0 : (List Int)) (p1 : Int) (p2 : (List Int)) : Option (T_api_Frame × Int) :=
  (g15 p0 p1).bind fun x38858 => (if x38858.2 ≠ 0 then (some ((T_api_Frame.mk 0 0 0 []), x38858.2)) else (g16_l1 p2 x38858 FUEL 0))

-- incipit/frame.Name 
def g17 (p0 : Int) : Option ByteArray :=
  if p0 = 1 then (some (⟨#[104, 101, 97, 100]⟩ : ByteArray)) else (if p0 = 2 then (some (⟨#[109, 97, 112]⟩ : ByteArray)) else (if p0 = 3 then (some (⟨#[108, 101, 97, 102]⟩ : ByteArray)) else (if p0 = 4 then (some (⟨#[105, 110, 110, 101, 114]⟩ : ByteArray)) else (some (⟨#[]⟩ : ByteArray)))))

-- incipit/incipitref04.Name 
def g18 (p0 : Int) : Option ByteArray :=
  if p0 = 1 then (some (⟨#[104, 101, 97, 100]⟩ : ByteArray)) else (if p0 = 2 then (some (⟨#[109, 97, 112]⟩ : ByteArray)) else (if p0 = 3 then (some (⟨#[108, 101, 97, 102]⟩ : ByteArray)) else (if p0 = 4 then (some (⟨#[105, 110, 110, 101, 114]⟩ : ByteArray)) else (some (⟨#[]⟩ : ByteArray)))))

-- incipit/incipitlaw04.FrameGets 
def g5_j5 (x50975 : Bool) : Option Bool :=
  some x50975
def g5_l4B (p0 : (List Int)) (p1 : Int) (p2 : (List Int)) (p3 : Int) (x44981 : (List Int)) (x46871 : Int) (x46872 : Int) (x46873 : Int) (x46874 : (List Int)) (x46879 : Int) (x50703 : Int) (x50704 : Int) (x50705 : Int) (x50706 : (List Int)) (x50711 : Int) (rec50867 : Int → (List Int) → Option Bool) (x50835 : Int) (x50836 : (List Int)) : Option Bool :=
  if x50835 < (x44981.length : Int) then ((getI x50836 x50835).bind fun x50872 => ((getI x50836 x50835).bind fun x50880 => ((setI x50836 x50835 (xorI .u8 x50872 255)).bind fun y50887 => (rec50867 (IntKind.i64.wrap (x50835 + 1)) y50887)))) else ((g15 p0 p1).bind fun x50895 => ((g16 p0 p1 p2).bind fun x50926 => ((g12 (T_api_Frame.mk x46871 x46872 x46873 x46874) x50895.1).bind fun x50980 => (if x50980 = true then (if x46879 = x50895.2 then ((g12 (T_api_Frame.mk x50703 x50704 x50705 x50706) x50926.1).bind fun x50989 => (if x50989 = true then (if x50711 = x50926.2 then ((g17 p3).bind fun x50998 => ((g18 p3).bind fun x51005 => (g5_j5 (decide (x50998.toList = x51005.toList))))) else (g5_j5 false)) else (g5_j5 false))) else (g5_j5 false)) else (g5_j5 false)))))
def g5_l4 (p0 : (List Int)) (p1 : Int) (p2 : (List Int)) (p3 : Int) (x44981 : (List Int)) (x46871 : Int) (x46872 : Int) (x46873 : Int) (x46874 : (List Int)) (x46879 : Int) (x50703 : Int) (x50704 : Int) (x50705 : Int) (x50706 : (List Int)) (x50711 : Int) : Nat → Int → (List Int) → Option Bool
  | 0, _, _ => none
  | n + 1, x50835, x50836 => g5_l4B p0 p1 p2 p3 x44981 x46871 x46872 x46873 x46874 x46879 x50703 x50704 x50705 x50706 x50711 (g5_l4 p0 p1 p2 p3 x44981 x46871 x46872 x46873 x46874 x46879 x50703 x50704 x50705 x50706 x50711 n) x50835 x50836
def g5_j3 (p0 : (List Int)) (p1 : Int) (p2 : (List Int)) (p3 : Int) (x44981 : (List Int)) (x46871 : Int) (x46872 : Int) (x46873 : Int) (x46874 : (List Int)) (x46879 : Int) (x50703 : Int) (x50704 : Int) (x50705 : Int) (x50706 : (List Int)) (x50711 : Int) : Option Bool :=
  g5_l4 p0 p1 p2 p3 x44981 x46871 x46872 x46873 x46874 x46879 x50703 x50704 x50705 x50706 x50711 FUEL 0 x44981
def g5_j7 (p0 : (List Int)) (p1 : Int) (p2 : (List Int)) (p3 : Int) (x44981 : (List Int)) (x46871 : Int) (x46872 : Int) (x46873 : Int) (x46874 : (List Int)) (x46879 : Int) (x52893 : Int) (x52894 : Int) (x52895 : Int) (x52896 : (List Int)) (x52901 : Int) : Option Bool :=
  g5_j3 p0 p1 p2 p3 x44981 x46871 x46872 x46873 x46874 x46879 x52893 x52894 x52895 x52896 x52901
def g5_j6 (p0 : (List Int)) (p1 : Int) (p2 : (List Int)) (p3 : Int) (x44981 : (List Int)) (x46871 : Int) (x46872 : Int) (x46873 : Int) (x46874 : (List Int)) (x46879 : Int) (x52893 : Int) (x52894 : Int) (x52895 : Int) (x52896 : (List Int)) (x52901 : Int) : Option Bool :=
  if x52901 = 0 then ((g29 p2 x52893).bind fun x52944 => (if ¬ (x52944 = true) then (g5_j3 p0 p1 p2 p3 x44981 x46871 x46872 x46873 x46874 x46879 0 0 0 [] 42) else (g5_j7 p0 p1 p2 p3 x44981 x46871 x46872 x46873 x46874 x46879 x52893 x52894 x52895 x52896 x52901))) else (g5_j7 p0 p1 p2 p3 x44981 x46871 x46872 x46873 x46874 x46879 x52893 x52894 x52895 x52896 x52901)
def g5_j10 (p0 : (List Int)) (p1 : Int) (p2 : (List Int)) (p3 : Int) (x44981 : (List Int)) (x46871 : Int) (x46872 : Int) (x46873 : Int) (x46874 : (List Int)) (x46879 : Int) (x52984 : (T_api_Frame × Int)) (x54358 : Bool) : Option Bool :=
  if x54358 = true then (g5_j6 p0 p1 p2 p3 x44981 x46871 x46872 x46873 x46874 x46879 0 0 0 [] 41) else (g5_j6 p0 p1 p2 p3 x44981 x46871 x46872 x46873 x46874 x46879 x52984.1.Kind x52984.1.Page x52984.1.Epoch x52984.1.Data 0)
def g5_j9 (p0 : (List Int)) (p1 : Int) (p2 : (List Int)) (p3 : Int) (x44981 : (List Int)) (x46871 : Int) (x46872 : Int) (x46873 : Int) (x46874 : (List Int)) (x46879 : Int) (x52984 : (T_api_Frame × Int)) (x54350 : Bool) : Option Bool :=
  if x54350 = true then (g5_j6 p0 p1 p2 p3 x44981 x46871 x46872 x46873 x46874 x46879 0 0 0 [] 42) else (if x52984.1.Page ≠ p1 then (g5_j10 p0 p1 p2 p3 x44981 x46871 x46872 x46873 x46874 x46879 x52984 true) else (g5_j10 p0 p1 p2 p3 x44981 x46871 x46872 x46873 x46874 x46879 x52984 (decide (x52984.1.Page ≥ 2048))))
def g5_j8 (p0 : (List Int)) (p1 : Int) (p2 : (List Int)) (p3 : Int) (x44981 : (List Int)) (x46871 : Int) (x46872 : Int) (x46873 : Int) (x46874 : (List Int)) (x46879 : Int) (y52967 : (List Int)) (x52984 : (T_api_Frame × Int)) (x54329 : Bool) : Option Bool :=
  if x54329 = true then (g5_j6 p0 p1 p2 p3 x44981 x46871 x46872 x46873 x46874 x46879 0 0 0 [] 40) else ((g27 x52984.1.Kind).bind fun x54369 => (if ¬ (x54369 = true) then (g5_j9 p0 p1 p2 p3 x44981 x46871 x46872 x46873 x46874 x46879 x52984 true) else ((getI (List.take 256 y52967) 5).bind fun x54377 => (g5_j9 p0 p1 p2 p3 x44981 x46871 x46872 x46873 x46874 x46879 x52984 (decide (x54377 ≠ 0))))))
def g5_j2 (p0 : (List Int)) (p1 : Int) (p2 : (List Int)) (p3 : Int) (x44981 : (List Int)) (x46871 : Int) (x46872 : Int) (x46873 : Int) (x46874 : (List Int)) (x46879 : Int) : Option Bool :=
  if (x44981.length : Int) ≠ 256 then (g5_j6 p0 p1 p2 p3 x44981 x46871 x46872 x46873 x46874 x46879 0 0 0 [] 1) else (if 256 ≤ x44981.length then ((cutI x44981 0 (x44981.length : Int)).bind fun y52967 => (if 256 ≤ y52967.length then ((g25 (List.take 256 y52967)).bind fun x52984 => (if (List.take 256 y52967) = (List.replicate 256 (0 : Int)) then (g5_j8 p0 p1 p2 p3 x44981 x46871 x46872 x46873 x46874 x46879 y52967 x52984 true) else (if (0 : Int) ≤ 4 ∧ 4 ≤ ((List.take 256 y52967).length : Int) ∧ ((List.take 256 y52967).length : Int) ≤ ((List.take 256 y52967).length : Int) then ((g59 0).bind fun x54762 => ((cutI (List.take 256 y52967) 4 ((List.take 256 y52967).length : Int)).bind fun y54790 => ((g60 x54762 y54790).bind fun x54793 => ((g61 x54793).bind fun x54803 => (g5_j8 p0 p1 p2 p3 x44981 x46871 x46872 x46873 x46874 x46879 y52967 x52984 (decide (x52984.2 ≠ x54803))))))) else none))) else none)) else none)
def g5_j13 (p0 : (List Int)) (p1 : Int) (p2 : (List Int)) (p3 : Int) (x44981 : (List Int)) (x54840 : (T_api_Frame × Int)) (x56214 : Bool) : Option Bool :=
  if x56214 = true then (g5_j2 p0 p1 p2 p3 x44981 0 0 0 [] 41) else (g5_j2 p0 p1 p2 p3 x44981 x54840.1.Kind x54840.1.Page x54840.1.Epoch x54840.1.Data 0)
def g5_j12 (p0 : (List Int)) (p1 : Int) (p2 : (List Int)) (p3 : Int) (x44981 : (List Int)) (x54840 : (T_api_Frame × Int)) (x56206 : Bool) : Option Bool :=
  if x56206 = true then (g5_j2 p0 p1 p2 p3 x44981 0 0 0 [] 42) else (if x54840.1.Page ≠ p1 then (g5_j13 p0 p1 p2 p3 x44981 x54840 true) else (g5_j13 p0 p1 p2 p3 x44981 x54840 (decide (x54840.1.Page ≥ 2048))))
def g5_j11 (p0 : (List Int)) (p1 : Int) (p2 : (List Int)) (p3 : Int) (x44981 : (List Int)) (y54823 : (List Int)) (x54840 : (T_api_Frame × Int)) (x56185 : Bool) : Option Bool :=
  if x56185 = true then (g5_j2 p0 p1 p2 p3 x44981 0 0 0 [] 40) else ((g27 x54840.1.Kind).bind fun x56225 => (if ¬ (x56225 = true) then (g5_j12 p0 p1 p2 p3 x44981 x54840 true) else ((getI (List.take 256 y54823) 5).bind fun x56233 => (g5_j12 p0 p1 p2 p3 x44981 x54840 (decide (x56233 ≠ 0))))))
def g5_j1 (p0 : (List Int)) (p1 : Int) (p2 : (List Int)) (p3 : Int) (x44970 : Bool) : Option Bool :=
  if x44970 = true then ((g9).bind fun x44974 => (some x44974)) else ((g13 p0).bind fun x44981 => (if (x44981.length : Int) ≠ 256 then (g5_j2 p0 p1 p2 p3 x44981 0 0 0 [] 1) else (if 256 ≤ x44981.length then ((cutI x44981 0 (x44981.length : Int)).bind fun y54823 => (if 256 ≤ y54823.length then ((g25 (List.take 256 y54823)).bind fun x54840 => (if (List.take 256 y54823) = (List.replicate 256 (0 : Int)) then (g5_j11 p0 p1 p2 p3 x44981 y54823 x54840 true) else (if (0 : Int) ≤ 4 ∧ 4 ≤ ((List.take 256 y54823).length : Int) ∧ ((List.take 256 y54823).length : Int) ≤ ((List.take 256 y54823).length : Int) then ((g59 0).bind fun x56618 => ((cutI (List.take 256 y54823) 4 ((List.take 256 y54823).length : Int)).bind fun y56646 => ((g60 x56618 y56646).bind fun x56649 => ((g61 x56649).bind fun x56659 => (g5_j11 p0 p1 p2 p3 x44981 y54823 x54840 (decide (x54840.2 ≠ x56659))))))) else none))) else none)) else none)))
def g5 (p0 : (List Int)) (p1 : Int) (p2 : (List Int)) (p3 : Int) : Option Bool :=
  (g9).bind fun x56668 => (if ¬ (x56668 = true) then (g5_j1 p0 p1 p2 p3 true) else (if (p0.length : Int) > 3000 then (g5_j1 p0 p1 p2 p3 true) else (g5_j1 p0 p1 p2 p3 (decide ((p2.length : Int) > 100)))))

-- bytes.trimRightByte 
def g54_l1B (p1 : Int) (rec59333 : (List Int) → Option (List Int)) (x59280 : (List Int)) : Option (List Int) :=
  if (x59280.length : Int) > 0 then ((getI x59280 (IntKind.i64.wrap ((x59280.length : Int) - 1))).bind fun x59365 => (if x59365 = p1 then ((cutI x59280 0 (IntKind.i64.wrap ((x59280.length : Int) - 1))).bind fun y59374 => (rec59333 y59374)) else (some x59280))) else (some x59280)
def g54_l1 (p1 : Int) : Nat → (List Int) → Option (List Int)
  | 0, _ => none
  | n + 1, x59280 => g54_l1B p1 (g54_l1 p1 n) x59280
def g54 (p0 : (List Int)) (p1 : Int) : Option (List Int) :=
  g54_l1 p1 FUEL p0

-- incipit/frame.bare 
def g31_j1 (p0 : (List Int)) (x59515 : Bool) : Option (List Int) :=
  if x59515 = true then (some p0) else ((g54 p0 0).bind fun x59528 => (some x59528))
def g31 (p0 : (List Int)) : Option (List Int) :=
  if (p0.length : Int) = 0 then (g31_j1 p0 true) else (g31_j1 p0 false)

-- incipit/frame.Same (('agg', ('.', '.', '.', 'ro')), ('agg', ('.', '.', '.', 'ro')))
def g19_j1 (x59670 : Bool) : Option Bool :=
  some x59670
def g19 (p0 : T_api_Frame) (p1 : T_api_Frame) : Option Bool :=
  if p0.Kind = p1.Kind then (if p0.Page = p1.Page then (if p0.Epoch = p1.Epoch then ((g31 p0.Data).bind fun x59683 => ((g31 p1.Data).bind fun x59694 => ((g20 x59683 x59694).bind fun x59705 => (g19_j1 x59705)))) else (g19_j1 false)) else (g19_j1 false)) else (g19_j1 false)

-- incipit/incipitlaw04.FrameBack (('agg', ('.', '.', '.', 'ro')), 'ro', '.')
def g6_j2 (p1 : (List Int)) (p2 : Int) : Option Bool :=
  (g8 p1 p2).bind fun x69413 => (if x69413.2 ≠ 0 then ((g12 x69413.1 (T_api_Frame.mk 0 0 0 [])).bind fun x69438 => (some x69438)) else ((g11 x69413.1).bind fun x69445 => (if x69445.2 = 0 then ((g20 x69445.1 p1).bind fun x69479 => (some x69479)) else (some false))))
def g6_j4 (p1 : (List Int)) (p2 : Int) (x71409 : Bool) : Option Bool :=
  if x71409 = true then (some false) else (g6_j2 p1 p2)
def g6_j3 (p0 : T_api_Frame) (p1 : (List Int)) (p2 : Int) (x69491 : ((List Int) × Int)) (x71382 : Int) (x71383 : Int) (x71384 : Int) (x71385 : (List Int)) (x71390 : Int) : Option Bool :=
  if x71390 ≠ 0 then (g6_j4 p1 p2 true) else ((g19 (T_api_Frame.mk x71382 x71383 x71384 x71385) p0).bind fun x71416 => (if ¬ (x71416 = true) then (g6_j4 p1 p2 true) else (if (x69491.1.length : Int) ≠ 256 then (g6_j4 p1 p2 true) else (g6_j4 p1 p2 (decide ((x71385.length : Int) ≠ 240))))))
def g6_j7 (p0 : T_api_Frame) (p1 : (List Int)) (p2 : Int) (x69491 : ((List Int) × Int)) (x71455 : (T_api_Frame × Int)) (x72829 : Bool) : Option Bool :=
  if x72829 = true then (g6_j3 p0 p1 p2 x69491 0 0 0 [] 41) else (g6_j3 p0 p1 p2 x69491 x71455.1.Kind x71455.1.Page x71455.1.Epoch x71455.1.Data 0)
def g6_j6 (p0 : T_api_Frame) (p1 : (List Int)) (p2 : Int) (x69491 : ((List Int) × Int)) (x71455 : (T_api_Frame × Int)) (x72821 : Bool) : Option Bool :=
  if x72821 = true then (g6_j3 p0 p1 p2 x69491 0 0 0 [] 42) else (if x71455.1.Page ≠ p0.Page then (g6_j7 p0 p1 p2 x69491 x71455 true) else (g6_j7 p0 p1 p2 x69491 x71455 (decide (x71455.1.Page ≥ 2048))))
def g6_j5 (p0 : T_api_Frame) (p1 : (List Int)) (p2 : Int) (x69491 : ((List Int) × Int)) (y71438 : (List Int)) (x71455 : (T_api_Frame × Int)) (x72800 : Bool) : Option Bool :=
  if x72800 = true then (g6_j3 p0 p1 p2 x69491 0 0 0 [] 40) else ((g27 x71455.1.Kind).bind fun x72840 => (if ¬ (x72840 = true) then (g6_j6 p0 p1 p2 x69491 x71455 true) else ((getI (List.take 256 y71438) 5).bind fun x72848 => (g6_j6 p0 p1 p2 x69491 x71455 (decide (x72848 ≠ 0))))))
def g6_j1 (p0 : T_api_Frame) (p1 : (List Int)) (p2 : Int) (x65609 : Bool) : Option Bool :=
  if x65609 = true then ((g9).bind fun x65613 => (some x65613)) else ((g11 p0).bind fun x69491 => (if x69491.2 = 0 then (if (x69491.1.length : Int) ≠ 256 then (g6_j3 p0 p1 p2 x69491 0 0 0 [] 1) else (if 256 ≤ x69491.1.length then ((cutI x69491.1 0 (x69491.1.length : Int)).bind fun y71438 => (if 256 ≤ y71438.length then ((g25 (List.take 256 y71438)).bind fun x71455 => (if (List.take 256 y71438) = (List.replicate 256 (0 : Int)) then (g6_j5 p0 p1 p2 x69491 y71438 x71455 true) else (if (0 : Int) ≤ 4 ∧ 4 ≤ ((List.take 256 y71438).length : Int) ∧ ((List.take 256 y71438).length : Int) ≤ ((List.take 256 y71438).length : Int) then ((g59 0).bind fun x73233 => ((cutI (List.take 256 y71438) 4 ((List.take 256 y71438).length : Int)).bind fun y73261 => ((g60 x73233 y73261).bind fun x73264 => ((g61 x73264).bind fun x73274 => (g6_j5 p0 p1 p2 x69491 y71438 x71455 (decide (x71455.2 ≠ x73274))))))) else none))) else none)) else none)) else (g6_j2 p1 p2)))
def g6 (p0 : T_api_Frame) (p1 : (List Int)) (p2 : Int) : Option Bool :=
  (g9).bind fun x73283 => (if ¬ (x73283 = true) then (g6_j1 p0 p1 p2 true) else ((g10 ([p0] : List T_api_Frame)).bind fun x73300 => (if ¬ (x73300 = true) then (g6_j1 p0 p1 p2 true) else (g6_j1 p0 p1 p2 (decide ((p1.length : Int) > 3000))))))

-- incipit/incipitref04.Check (('agg', ('.', '.', '.', 'ro')),)
def g23_j2 (p0 : T_api_Frame) (x73512 : Bool) : Option Int :=
  if x73512 = true then (some 41) else (if (p0.Data.length : Int) > 240 then (some 3) else (some 0))
def g23_j1 (p0 : T_api_Frame) (x73505 : Bool) : Option Int :=
  if x73505 = true then (some 42) else (if p0.Page < 0 then (g23_j2 p0 true) else (g23_j2 p0 (decide (p0.Page ≥ 2048))))
def g23 (p0 : T_api_Frame) : Option Int :=
  if p0.Kind < 1 then (g23_j1 p0 true) else (g23_j1 p0 (decide (p0.Kind > 4)))

-- incipit/incipitref04.Put (('agg', ('.', '.', '.', 'ro')),)
def g21_l2B (rec74178 : (List Int) → Option ((List Int) × Int)) (x74150 : (List Int)) : Option ((List Int) × Int) :=
  if (x74150.length : Int) < 252 then ((appI x74150 ([0] : List Int) 1).bind fun x74191 => (rec74178 x74191)) else ((g32 x74150).bind fun x74203 => (some (x74203, 0)))
def g21_l2  : Nat → (List Int) → Option ((List Int) × Int)
  | 0, _ => none
  | n + 1, x74150 => g21_l2B (g21_l2 n) x74150
def g21_l1B (p0 : T_api_Frame) (rec74024 : (List Int) → Int → Option ((List Int) × Int)) (x73992 : (List Int)) (x74000 : Int) : Option ((List Int) × Int) :=
  if x74000 < 8 then ((some (IntKind.u64.wrap (IntKind.i64.wrap (56 - (IntKind.i64.wrap (8 * x74000)))))).bind fun x74029 => (if 0 ≤ x74029 then ((appI x73992 ([IntKind.u8.wrap (shrI .u64 p0.Epoch x74029)] : List Int) 1).bind fun x74040 => (rec74024 x74040 (IntKind.i64.wrap (x74000 + 1)))) else none)) else ((appI x73992 p0.Data 1).bind fun x74051 => (g21_l2 FUEL x74051))
def g21_l1 (p0 : T_api_Frame) : Nat → (List Int) → Int → Option ((List Int) × Int)
  | 0, _, _ => none
  | n + 1, x73992, x74000 => g21_l1B p0 (g21_l1 p0 n) x73992 x74000
def g21 (p0 : T_api_Frame) : Option ((List Int) × Int) :=
  (g23 p0).bind fun x73884 => (if x73884 ≠ 0 then (some (([] : List Int), x73884)) else (g21_l1 p0 FUEL ([IntKind.u8.wrap p0.Kind, 0, IntKind.u8.wrap (IntKind.i64.wrap (Int.tdiv p0.Page 256)), IntKind.u8.wrap (Int.tmod p0.Page 256)] : List Int) 0))

-- incipit/incipitref04.trim 
def g33_l1B (p0 : (List Int)) (rec74766 : Int → Option (List Int)) (x74727 : Int) : Option (List Int) :=
  if x74727 > 0 then ((getI p0 (IntKind.i64.wrap (x74727 - 1))).bind fun x74798 => (if x74798 = 0 then (rec74766 (IntKind.i64.wrap (x74727 - 1))) else ((cutI p0 0 x74727).bind fun y74807 => (some y74807)))) else ((cutI p0 0 x74727).bind fun y74817 => (some y74817))
def g33_l1 (p0 : (List Int)) : Nat → Int → Option (List Int)
  | 0, _ => none
  | n + 1, x74727 => g33_l1B p0 (g33_l1 p0 n) x74727
def g33 (p0 : (List Int)) : Option (List Int) :=
  g33_l1 p0 FUEL (p0.length : Int)

-- incipit/incipitref04.Same (('agg', ('.', '.', '.', 'ro')), ('agg', ('.', '.', '.', 'ro')))
def g24_j1 (x74942 : Bool) : Option Bool :=
  some x74942
def g24 (p0 : T_api_Frame) (p1 : T_api_Frame) : Option Bool :=
  if p0.Kind = p1.Kind then (if p0.Page = p1.Page then (if p0.Epoch = p1.Epoch then ((g33 p0.Data).bind fun x74955 => ((g33 p1.Data).bind fun x74968 => (g24_j1 (decide ((strOfNums x74955).toList = (strOfNums x74968).toList))))) else (g24_j1 false)) else (g24_j1 false)) else (g24_j1 false)

-- incipit/incipitlaw04.FramePuts (('agg', ('.', '.', '.', 'ro')), ('agg', ('.', '.', '.', 'ro')))
def g7_l3B (p0 : T_api_Frame) (x75525 : (List Int)) (x75539 : ((List Int) × Int)) (rec75892 : Int → (List Int) → Option Bool) (x75860 : Int) (x75861 : (List Int)) : Option Bool :=
  if x75860 < (x75539.1.length : Int) then ((getI x75861 x75860).bind fun x75897 => ((getI x75861 x75860).bind fun x75905 => ((setI x75861 x75860 (xorI .u8 x75897 255)).bind fun y75912 => (rec75892 (IntKind.i64.wrap (x75860 + 1)) y75912)))) else ((g20 p0.Data x75525).bind fun x75924 => (some x75924))
def g7_l3 (p0 : T_api_Frame) (x75525 : (List Int)) (x75539 : ((List Int) × Int)) : Nat → Int → (List Int) → Option Bool
  | 0, _, _ => none
  | n + 1, x75860, x75861 => g7_l3B p0 x75525 x75539 (g7_l3 p0 x75525 x75539 n) x75860 x75861
def g7_j2 (p0 : T_api_Frame) (x75525 : (List Int)) (x75539 : ((List Int) × Int)) (x75740 : Bool) : Option Bool :=
  if x75740 = true then (some false) else (g7_l3 p0 x75525 x75539 FUEL 0 x75539.1)
def g7_j1 (p0 : T_api_Frame) (p1 : T_api_Frame) (x75514 : Bool) : Option Bool :=
  if x75514 = true then ((g9).bind fun x75518 => (some x75518)) else ((g13 p0.Data).bind fun x75525 => ((g11 p0).bind fun x75539 => ((g21 p0).bind fun x75553 => ((g22 p0).bind fun x75943 => ((g23 p0).bind fun x75950 => (if x75943 ≠ x75950 then (g7_j2 p0 x75525 x75539 true) else ((g19 p0 p1).bind fun x75958 => ((g24 p0 p1).bind fun x75965 => (if x75958 ≠ x75965 then (g7_j2 p0 x75525 x75539 true) else ((g20 x75539.1 x75553.1).bind fun x75981 => (if ¬ (x75981 = true) then (g7_j2 p0 x75525 x75539 true) else (g7_j2 p0 x75525 x75539 (decide (x75539.2 ≠ x75553.2))))))))))))))
def g7 (p0 : T_api_Frame) (p1 : T_api_Frame) : Option Bool :=
  (g9).bind fun x75995 => (if ¬ (x75995 = true) then (g7_j1 p0 p1 true) else ((g10 ([p0, p1] : List T_api_Frame)).bind fun x76012 => (g7_j1 p0 p1 (decide (¬ (x76012 = true))))))

end Go.Proofs.YtjkghheeeiacmaaDoor
