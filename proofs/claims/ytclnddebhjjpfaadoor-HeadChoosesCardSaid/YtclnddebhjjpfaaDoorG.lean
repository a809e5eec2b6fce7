/- PRINTED BY sy.py: what each Go function computes, in plain Lean. -/
import Derived.Test.YtclnddebhjjpfaaDoorSXaa
namespace Go.Proofs.YtclnddebhjjpfaaDoor
open Go Go.SX Go.RowKit
set_option maxRecDepth 100000
set_option linter.unusedVariables false
def TAB1 : List Int := [128, 191, 160, 191, 128, 159, 144, 191, 128, 143, 0, 0, 0, 0, 0, 0, 0, 0, 0, 0, 0, 0, 0, 0, 0, 0, 0, 0, 0, 0, 0, 0]
def TAB2 : List Int := [0, 274646895, 549293790, 820201905, 1098587580, 1361435347, 1640403810, 1905808397, 2197175160, 2460548119, 2722870694, 2987750089, 3280807620, 3553878443, 3811616794, 4084100981]
structure T_api_Head where
  Epoch : Int
  Pages : Int
  Maps : (List Int)
  User : (List Int)
  deriving DecidableEq
structure T_api_Frame where
  Kind : Int
  Page : Int
  Epoch : Int
  Data : (List Int)
  deriving DecidableEq
structure T_pack_Reader where
  b : (List Int)
  err : Int
  made : Bool
  deriving DecidableEq
-- incipit/incipitlaw06.some 
def g29  : Option T_api_Head :=
  some (T_api_Head.mk 9 64 ([2] : List Int) ([7] : List Int))

-- incipit/head.maps 
def g64 (p0 : Int) : Option Int :=
  if p0 ≤ 1024 then (some 1) else (some 2)

-- slices.Index[[]int,int] 
def g77_l1B (p0 : (List Int)) (p1 : Int) (rec478 : Int → Option Int) (x457 : Int) : Option Int :=
  if x457 < (p0.length : Int) then ((getI p0 x457).bind fun x492 => (if p1 = x492 then (some x457) else (rec478 (IntKind.i64.wrap (x457 + 1))))) else (some (-1))
def g77_l1 (p0 : (List Int)) (p1 : Int) : Nat → Int → Option Int
  | 0, _ => none
  | n + 1, x457 => g77_l1B p0 p1 (g77_l1 p0 p1 n) x457
def g77 (p0 : (List Int)) (p1 : Int) : Option Int :=
  g77_l1 p0 p1 FUEL 0

-- slices.Contains[[]int,int] 
def g65 (p0 : (List Int)) (p1 : Int) : Option Bool :=
  (g77 p0 p1).bind fun x514 => (some (decide (x514 ≥ 0)))

-- incipit/head.holds (('agg', ('.', '.', 'ro', 'ro')), '.')
def g42_j1 (p0 : T_api_Head) (x3148 : Bool) : Option Bool :=
  if x3148 = true then (some (decide ((p0.User.length : Int) ≤ 32))) else (some false)
def g42_j4 (x3310 : Int) (rec3385 : Bool → Int → Option Bool) (x3419 : Bool) (x3420 : Int) (x3421 : Int) (x3422 : Bool) (x3423 : Bool) (x3424 : Bool) (x3425 : Bool) (x3426 : Bool) (x3427 : Bool) : Option Bool :=
  rec3385 x3419 (IntKind.i64.wrap (x3310 + 1))
def g42_l3B (p0 : T_api_Head) (rec3385 : Bool → Int → Option Bool) (x3309 : Bool) (x3310 : Int) : Option Bool :=
  if x3310 < (p0.Maps.length : Int) then ((getI p0.Maps x3310).bind fun x3432 => (if x3309 = true then (if x3432 ≥ 2 then (if x3432 < p0.Pages then ((cutI p0.Maps 0 x3310).bind fun y3443 => ((g65 y3443 x3432).bind fun x3453 => (g42_j4 x3310 rec3385 (decide (¬ (x3453 = true))) x3432 x3432 true (decide (x3432 ≥ 2)) true (decide (x3432 < p0.Pages)) true (decide (¬ (x3453 = true)))))) else (g42_j4 x3310 rec3385 false x3432 x3432 true (decide (x3432 ≥ 2)) true (decide (x3432 < p0.Pages)) false false)) else (g42_j4 x3310 rec3385 false x3432 x3432 true (decide (x3432 ≥ 2)) false false false false)) else (g42_j4 x3310 rec3385 false x3432 x3432 false false false false false false))) else (g42_j1 p0 x3309)
def g42_l3 (p0 : T_api_Head) : Nat → Bool → Int → Option Bool
  | 0, _, _ => none
  | n + 1, x3309, x3310 => g42_l3B p0 (g42_l3 p0 n) x3309 x3310
def g42_j2 (p0 : T_api_Head) (x3232 : Bool) : Option Bool :=
  g42_l3 p0 FUEL x3232 0
def g42_j5 (p0 : T_api_Head) (x3494 : Bool) : Option Bool :=
  if x3494 = true then ((g64 p0.Pages).bind fun x3502 => (g42_j2 p0 (decide ((p0.Maps.length : Int) = x3502)))) else (g42_j2 p0 false)
def g42 (p0 : T_api_Head) (p1 : Int) : Option Bool :=
  if p1 = 0 then (if p0.Pages ≥ 8 then (g42_j5 p0 (decide (p0.Pages ≤ 2048))) else (g42_j5 p0 false)) else (if p1 = 1 then (g42_j5 p0 true) else (if p1 = 2 then (g42_j2 p0 true) else (if p1 = 3 then (g42_j1 p0 true) else (some true))))

-- incipit/head.Check (('agg', ('.', '.', 'ro', 'ro')),)
def g21 (p0 : T_api_Head) : Option Int :=
  (g42 p0 0).bind fun x3575 => (if ¬ (x3575 = true) then (some 60) else (some 0))

-- incipit/pack.wide 
def g59_l1B (p0 : (List Int)) (p1 : Int) (p2 : Int) (x4041 : (List Int)) (rec4166 : Int → (List Int) → Option (List Int)) (x4141 : Int) (x4142 : (List Int)) : Option (List Int) :=
  if x4141 < p2 then (if 0 ≤ (IntKind.u64.wrap (IntKind.i64.wrap (8 * x4141))) then ((some (shrI .u64 p1 (IntKind.u64.wrap (IntKind.i64.wrap (8 * x4141))))).bind fun x4172 => (if (0 : Int) ≤ IntKind.i64.wrap ((IntKind.i64.wrap (p2 - 1)) - x4141) ∧ IntKind.i64.wrap ((IntKind.i64.wrap (p2 - 1)) - x4141) < (x4041.length : Int) - (p0.length : Int) then ((getI x4142 ((p0.length : Int) + (IntKind.i64.wrap ((IntKind.i64.wrap (p2 - 1)) - x4141)))).bind fun x4174 => ((setI x4142 ((p0.length : Int) + (IntKind.i64.wrap ((IntKind.i64.wrap (p2 - 1)) - x4141))) (IntKind.u8.wrap x4172)).bind fun y4179 => (rec4166 (IntKind.i64.wrap (x4141 + 1)) y4179))) else none)) else none) else (some x4142)
def g59_l1 (p0 : (List Int)) (p1 : Int) (p2 : Int) (x4041 : (List Int)) : Nat → Int → (List Int) → Option (List Int)
  | 0, _, _ => none
  | n + 1, x4141, x4142 => g59_l1B p0 p1 p2 x4041 (g59_l1 p0 p1 p2 x4041 n) x4141 x4142
def g59 (p0 : (List Int)) (p1 : Int) (p2 : Int) : Option (List Int) :=
  (repI (IntKind.i64.wrap ((p0.length : Int) + p2)) 0 1).bind fun x4024 => ((some (copyI x4024 0 (x4024.length : Int) p0)).bind fun x4041 => (if (0 : Int) ≤ (p0.length : Int) ∧ (p0.length : Int) ≤ (x4041.length : Int) ∧ (x4041.length : Int) ≤ (x4041.length : Int) then (g59_l1 p0 p1 p2 x4041 FUEL 0 x4041) else none))

-- incipit/pack.U16 
def g37 (p0 : (List Int)) (p1 : Int) : Option (List Int) :=
  (g59 p0 (IntKind.u64.wrap p1) 2).bind fun x4214 => (some x4214)

-- incipit/pack.Text 
def g38 (p0 : (List Int)) (p1 : (List Int)) : Option ((List Int) × Int) :=
  if (p1.length : Int) > 255 then (some (([] : List Int), 3)) else ((some (IntKind.i64.wrap ((p0.length : Int) + (IntKind.i64.wrap (1 + (p1.length : Int)))))).bind fun x4653 => ((repI x4653 0 1).bind fun x4655 => ((some (copyI x4655 0 (x4655.length : Int) p0)).bind fun x4672 => (if (0 : Int) ≤ (p0.length : Int) ∧ (p0.length : Int) ≤ (x4672.length : Int) ∧ (x4672.length : Int) ≤ (x4672.length : Int) then (if (0 : Int) ≤ 0 ∧ 0 < (x4672.length : Int) - (p0.length : Int) then ((getI x4672 ((p0.length : Int) + 0)).bind fun x4690 => ((setI x4672 ((p0.length : Int) + 0) (IntKind.u8.wrap (p1.length : Int))).bind fun y4695 => (if (0 : Int) ≤ 1 ∧ 1 ≤ (x4672.length : Int) - (p0.length : Int) ∧ (x4672.length : Int) - (p0.length : Int) ≤ (x4672.length : Int) - (p0.length : Int) then ((some (copyI y4695 ((p0.length : Int) + 1) ((p0.length : Int) + ((x4672.length : Int) - (p0.length : Int))) p1)).bind fun x4721 => (some (x4721, 0))) else none))) else none) else none))))

-- incipit/head.Put (('agg', ('.', '.', 'ro', 'ro')),)
def g17_l1B (p0 : T_api_Head) (rec5006 : (List Int) → Int → Option ((List Int) × Int)) (x4964 : (List Int)) (x4972 : Int) : Option ((List Int) × Int) :=
  if x4972 < (p0.Maps.length : Int) then ((getI p0.Maps x4972).bind fun x5011 => ((g37 x4964 (IntKind.u16.wrap x5011)).bind fun x5023 => (rec5006 x5023 (IntKind.i64.wrap (x4972 + 1))))) else ((g38 x4964 p0.User).bind fun x5044 => (if x5044.2 ≠ 0 then (some (([] : List Int), x5044.2)) else ((appZI x5044.1 (IntKind.i64.wrap (240 - (x5044.1.length : Int))) 0 1).bind fun x5065 => (some (x5065, 0)))))
def g17_l1 (p0 : T_api_Head) : Nat → (List Int) → Int → Option ((List Int) × Int)
  | 0, _, _ => none
  | n + 1, x4964, x4972 => g17_l1B p0 (g17_l1 p0 n) x4964 x4972
def g17 (p0 : T_api_Head) : Option ((List Int) × Int) :=
  (g21 p0).bind fun x4783 => (if x4783 ≠ 0 then (some (([] : List Int), x4783)) else ((g37 [] (IntKind.u16.wrap p0.Pages)).bind fun x4792 => ((appI x4792 ([IntKind.u8.wrap (p0.Maps.length : Int)] : List Int) 1).bind fun x4814 => (g17_l1 p0 FUEL x4814 0))))

-- incipit/head.Page 
def g25 (p0 : Int) : Option Int :=
  some (IntKind.i64.wrap (andI .u64 p0 1))

-- incipit/frame.right 
def g72 (p0 : Int) : Option Bool :=
  if p0 ≥ 1 then (some (decide (p0 ≤ 4))) else (some false)

-- incipit/frame.Check (('agg', ('.', '.', '.', 'ro')),)
def g60_j1 (p0 : T_api_Frame) (x5263 : Bool) : Option Int :=
  if x5263 = true then (some 41) else (if (p0.Data.length : Int) > 240 then (some 3) else (some 0))
def g60 (p0 : T_api_Frame) : Option Int :=
  (g72 p0.Kind).bind fun x5253 => (if ¬ (x5253 = true) then (some 42) else (if p0.Page < 0 then (g60_j1 p0 true) else (g60_j1 p0 (decide (p0.Page ≥ 2048)))))

-- incipit/pack.U64 
def g73 (p0 : (List Int)) (p1 : Int) : Option (List Int) :=
  (g59 p0 p1 8).bind fun x5361 => (some x5361)

-- incipit/crc.of 
def g88 (p0 : Int) : Option Int :=
  some (xorI .u32 p0 4294967295)

-- (incipit/crc.register).nibble 
def g91 (p0 : Int) : Option Int :=
  (getI TAB2 (andI .u32 p0 15)).bind fun x5665 => (some (xorI .u32 (shrI .u32 p0 4) x5665))

-- (incipit/crc.register).by 
def g89_l1B (p1 : (List Int)) (rec5967 : Int → Int → Option Int) (x5939 : Int) (x5940 : Int) : Option Int :=
  if x5940 < (p1.length : Int) then ((getI p1 x5940).bind fun x5972 => ((g91 (xorI .u32 x5939 (IntKind.u32.wrap x5972))).bind fun x5980 => ((g91 x5980).bind fun x5987 => (rec5967 x5987 (IntKind.i64.wrap (x5940 + 1)))))) else (some x5939)
def g89_l1 (p1 : (List Int)) : Nat → Int → Int → Option Int
  | 0, _, _ => none
  | n + 1, x5939, x5940 => g89_l1B p1 (g89_l1 p1 n) x5939 x5940
def g89 (p0 : Int) (p1 : (List Int)) : Option Int :=
  g89_l1 p1 FUEL p0 0

-- (incipit/crc.register).sum 
def g90 (p0 : Int) : Option Int :=
  some (xorI .u32 p0 4294967295)

-- incipit/pack.U32 
def g74 (p0 : (List Int)) (p1 : Int) : Option (List Int) :=
  (g59 p0 (IntKind.u64.wrap p1) 4).bind fun x6416 => (some x6416)

-- incipit/frame.lay (('agg', ('.', '.', '.', 'ro')),)
def g61 (p0 : T_api_Frame) : Option (List Int) :=
  (getI (List.replicate 256 (0 : Int)) 4).bind fun x6488 => ((setI (List.replicate 256 (0 : Int)) 4 (IntKind.u8.wrap p0.Kind)).bind fun y6493 => ((g37 [] (IntKind.u16.wrap p0.Page)).bind fun x6507 => ((g73 x6507 p0.Epoch).bind fun x6525 => ((some (copyI y6493 6 16 x6525)).bind fun x6560 => (if (0 : Int) ≤ 16 ∧ 16 ≤ (x6560.length : Int) ∧ (x6560.length : Int) ≤ (x6560.length : Int) then ((some (copyI x6560 16 (x6560.length : Int) p0.Data)).bind fun x6586 => (if (0 : Int) ≤ 4 ∧ 4 ≤ (x6586.length : Int) ∧ (x6586.length : Int) ≤ (x6586.length : Int) then ((g88 0).bind fun x6980 => ((cutI x6586 4 (x6586.length : Int)).bind fun y7008 => ((g89 x6980 y7008).bind fun x7011 => ((g90 x7011).bind fun x7021 => ((g74 [] x7021).bind fun x7028 => ((some (copyI x6586 0 4 x7028)).bind fun x7050 => (some x7050))))))) else none)) else none)))))

-- incipit/frame.Put (('agg', ('.', '.', '.', 'ro')),)
def g40 (p0 : T_api_Frame) : Option ((List Int) × Int) :=
  (g60 p0).bind fun x7096 => (if x7096 ≠ 0 then (some (([] : List Int), x7096)) else ((g61 p0).bind fun x7105 => (some (x7105, 0))))

-- incipit/head.Lay (('agg', ('.', '.', 'ro', 'ro')),)
def g19 (p0 : T_api_Head) : Option ((List Int) × Int) :=
  (g17 p0).bind fun x7165 => (if x7165.2 ≠ 0 then (some (([] : List Int), x7165.2)) else ((g25 p0.Epoch).bind fun x7189 => ((g40 (T_api_Frame.mk 1 x7189 p0.Epoch x7165.1)).bind fun x7200 => (some (x7200.1, x7200.2)))))

-- incipit/incipitlaw06.lay (('agg', ('.', '.', 'ro', 'ro')),)
def g27 (p0 : T_api_Head) : Option (List Int) :=
  (g19 p0).bind fun x7249 => (some x7249.1)

-- incipit/pack.Read 
def g32 (p0 : (List Int)) : Option T_pack_Reader :=
  (repI (IntKind.i64.wrap ((p0.length : Int) + 0)) 0 1).bind fun x7514 => ((some (copyI x7514 0 (x7514.length : Int) p0)).bind fun x7531 => (if (0 : Int) ≤ (p0.length : Int) ∧ (p0.length : Int) ≤ (x7531.length : Int) ∧ (x7531.length : Int) ≤ (x7531.length : Int) then (some (T_pack_Reader.mk x7531 0 true)) else none))

-- (*incipit/pack.Reader).none (('obj', 85, ('own', '.', '.')),)
def g56 (p0 : T_pack_Reader) : Option Bool :=
  if ¬ (p0.made = true) then (some true) else (some (decide (p0.err ≠ 0)))

-- (*incipit/pack.Reader).fails (('obj', 85, ('own', '.', '.')), '.')
def g57 (p0 : T_pack_Reader) (p1 : Int) : Option T_pack_Reader :=
  some (T_pack_Reader.mk p0.b p1 p0.made)

-- (*incipit/pack.Reader).next (('obj', 85, ('own', '.', '.')), '.')
def g58 (p0 : T_pack_Reader) (p1 : Int) : Option ((List Int) × T_pack_Reader) :=
  (g56 p0).bind fun x7746 => (if x7746 = true then (some ([], p0)) else (if p1 > (p0.b.length : Int) then ((g57 p0 10).bind fun x7778 => (some ([], x7778))) else (if p1 ≤ p1 ∧ p1 ≤ (p0.b.length : Int) then ((cutI p0.b 0 p1).bind fun y7800 => ((cutI p0.b p1 (p0.b.length : Int)).bind fun y7811 => (some (y7800, (T_pack_Reader.mk y7811 p0.err p0.made))))) else none)))

-- (*incipit/pack.Reader).number (('obj', 85, ('own', '.', '.')), '.')
def g55_l1B (x8001 : ((List Int) × T_pack_Reader)) (rec8040 : Int → Int → Option (Int × T_pack_Reader)) (x8028 : Int) (x8029 : Int) : Option (Int × T_pack_Reader) :=
  if x8029 < (x8001.1.length : Int) then ((getI x8001.1 x8029).bind fun x8045 => (rec8040 (orI .u64 (shlI .u64 x8028 8) (IntKind.u64.wrap x8045)) (IntKind.i64.wrap (x8029 + 1)))) else (some (x8028, x8001.2))
def g55_l1 (x8001 : ((List Int) × T_pack_Reader)) : Nat → Int → Int → Option (Int × T_pack_Reader)
  | 0, _, _ => none
  | n + 1, x8028, x8029 => g55_l1B x8001 (g55_l1 x8001 n) x8028 x8029
def g55 (p0 : T_pack_Reader) (p1 : Int) : Option (Int × T_pack_Reader) :=
  (g58 p0 p1).bind fun x8001 => (g55_l1 x8001 FUEL 0 0)

-- (*incipit/pack.Reader).U32 (('obj', 85, ('own', '.', '.')),)
def g83 (p0 : T_pack_Reader) : Option (Int × T_pack_Reader) :=
  (g55 p0 4).bind fun x8078 => (some (IntKind.u32.wrap x8078.1, x8078.2))

-- (*incipit/pack.Reader).none (('obj', 85, ('ro', '.', '.')),)
def g56_1 (p0 : T_pack_Reader) : Option Bool :=
  if ¬ (p0.made = true) then (some true) else (some (decide (p0.err ≠ 0)))

-- (*incipit/pack.Reader).fails (('obj', 85, ('ro', '.', '.')), '.')
def g57_1 (p0 : T_pack_Reader) (p1 : Int) : Option T_pack_Reader :=
  some (T_pack_Reader.mk p0.b p1 p0.made)

-- (*incipit/pack.Reader).next (('obj', 85, ('ro', '.', '.')), '.')
def g58_1 (p0 : T_pack_Reader) (p1 : Int) : Option ((List Int) × T_pack_Reader) :=
  (g56_1 p0).bind fun x8227 => (if x8227 = true then (some ([], p0)) else (if p1 > (p0.b.length : Int) then ((g57_1 p0 10).bind fun x8248 => (some ([], x8248))) else (if p1 ≤ p1 ∧ p1 ≤ (p0.b.length : Int) then ((cutI p0.b 0 p1).bind fun y8259 => ((cutI p0.b p1 (p0.b.length : Int)).bind fun y8270 => (some (y8259, (T_pack_Reader.mk y8270 p0.err p0.made))))) else none)))

-- (*incipit/pack.Reader).number (('obj', 85, ('ro', '.', '.')), '.')
def g55_1_l1B (x8457 : ((List Int) × T_pack_Reader)) (rec8496 : Int → Int → Option (Int × T_pack_Reader)) (x8484 : Int) (x8485 : Int) : Option (Int × T_pack_Reader) :=
  if x8485 < (x8457.1.length : Int) then ((getI x8457.1 x8485).bind fun x8501 => (rec8496 (orI .u64 (shlI .u64 x8484 8) (IntKind.u64.wrap x8501)) (IntKind.i64.wrap (x8485 + 1)))) else (some (x8484, x8457.2))
def g55_1_l1 (x8457 : ((List Int) × T_pack_Reader)) : Nat → Int → Int → Option (Int × T_pack_Reader)
  | 0, _, _ => none
  | n + 1, x8484, x8485 => g55_1_l1B x8457 (g55_1_l1 x8457 n) x8484 x8485
def g55_1 (p0 : T_pack_Reader) (p1 : Int) : Option (Int × T_pack_Reader) :=
  (g58_1 p0 p1).bind fun x8457 => (g55_1_l1 x8457 FUEL 0 0)

-- (*incipit/pack.Reader).U8 (('obj', 85, ('ro', '.', '.')),)
def g34 (p0 : T_pack_Reader) : Option (Int × T_pack_Reader) :=
  (g55_1 p0 1).bind fun x8531 => (some (IntKind.u8.wrap x8531.1, x8531.2))

-- (*incipit/pack.Reader).U16 (('obj', 85, ('ro', '.', '.')),)
def g33 (p0 : T_pack_Reader) : Option (Int × T_pack_Reader) :=
  (g55_1 p0 2).bind fun x8594 => (some (IntKind.u16.wrap x8594.1, x8594.2))

-- (*incipit/pack.Reader).U64 (('obj', 85, ('ro', '.', '.')),)
def g84 (p0 : T_pack_Reader) : Option (Int × T_pack_Reader) :=
  (g55_1 p0 8).bind fun x8641 => (some (x8641.1, x8641.2))

-- (*incipit/pack.Reader).Raw (('obj', 85, ('ro', '.', '.')), '.')
def g85 (p0 : T_pack_Reader) (p1 : Int) : Option ((List Int) × T_pack_Reader) :=
  (g56_1 p0).bind fun x8744 => (if x8744 = true then (some ([], p0)) else (if p1 < 0 then ((g57_1 p0 1).bind fun x8765 => (some ([], x8765))) else ((g58_1 p0 p1).bind fun x8776 => (some (x8776.1, x8776.2)))))

-- incipit/frame.take 
def g80 (p0 : (List Int)) : Option (T_api_Frame × Int) :=
  (g32 p0).bind fun x8833 => ((g83 x8833).bind fun x8851 => ((g34 x8851.2).bind fun x8862 => ((g34 x8862.2).bind fun x8878 => ((g33 x8878.2).bind fun x8889 => ((g84 x8889.2).bind fun x8900 => ((g85 x8900.2 240).bind fun x8915 => (some ((T_api_Frame.mk (IntKind.i64.wrap x8862.1) (IntKind.i64.wrap x8889.1) x8900.1 x8915.1), x8851.1))))))))

-- incipit/frame.Get 
def g70_j2 (p1 : Int) (x10855 : (T_api_Frame × Int)) (x12221 : Bool) : Option (T_api_Frame × Int) :=
  if x12221 = true then (some ((T_api_Frame.mk 0 0 0 []), 42)) else (if x10855.1.Page ≠ p1 then (some ((T_api_Frame.mk 0 0 0 []), 41)) else (if x10855.1.Page ≥ 2048 then (some ((T_api_Frame.mk 0 0 0 []), 41)) else (some (x10855.1, 0))))
def g70_j1 (p0 : (List Int)) (p1 : Int) (x10855 : (T_api_Frame × Int)) (x12200 : Bool) : Option (T_api_Frame × Int) :=
  if x12200 = true then (some ((T_api_Frame.mk 0 0 0 []), 40)) else ((g72 x10855.1.Kind).bind fun x12238 => (if ¬ (x12238 = true) then (g70_j2 p1 x10855 true) else ((getI (List.take 256 p0) 5).bind fun x12246 => (g70_j2 p1 x10855 (decide (x12246 ≠ 0))))))
def g70 (p0 : (List Int)) (p1 : Int) : Option (T_api_Frame × Int) :=
  if (p0.length : Int) ≠ 256 then (some ((T_api_Frame.mk 0 0 0 []), 1)) else (if 256 ≤ p0.length then ((g80 (List.take 256 p0)).bind fun x10855 => (if (List.take 256 p0) = (List.replicate 256 (0 : Int)) then (g70_j1 p0 p1 x10855 true) else (if (0 : Int) ≤ 4 ∧ 4 ≤ ((List.take 256 p0).length : Int) ∧ ((List.take 256 p0).length : Int) ≤ ((List.take 256 p0).length : Int) then ((g88 0).bind fun x12631 => ((cutI (List.take 256 p0) 4 ((List.take 256 p0).length : Int)).bind fun y12659 => ((g89 x12631 y12659).bind fun x12662 => ((g90 x12662).bind fun x12672 => (g70_j1 p0 p1 x10855 (decide (x10855.2 ≠ x12672))))))) else none))) else none)

-- incipit/frame.Want 
def g52_j1 (x12756 : (T_api_Frame × Int)) (x12800 : Bool) : Option (T_api_Frame × Int) :=
  if x12800 = true then (some ((T_api_Frame.mk 0 0 0 []), 42)) else (some (x12756.1, x12756.2))
def g52 (p0 : (List Int)) (p1 : Int) (p2 : (List Int)) : Option (T_api_Frame × Int) :=
  (g70 p0 p1).bind fun x12756 => (if x12756.2 = 0 then ((g65 p2 x12756.1.Kind).bind fun x12811 => (g52_j1 x12756 (decide (¬ (x12811 = true))))) else (g52_j1 x12756 false))

-- (*incipit/pack.Reader).U16 (('obj', 85, ('own', '.', '.')),)
def g33_1 (p0 : T_pack_Reader) : Option (Int × T_pack_Reader) :=
  (g55 p0 2).bind fun x13030 => (some (IntKind.u16.wrap x13030.1, x13030.2))

-- (*incipit/pack.Reader).Text (('obj', 85, ('ro', '.', '.')), '.')
def g35_j1 (p0 : T_pack_Reader) (x15579 : Int) : Option ((List Int) × T_pack_Reader) :=
  if x15579 ≠ 0 then ((g57_1 p0 x15579).bind fun x15595 => (some ([], x15595))) else ((getI p0.b 0).bind fun x15606 => ((g58_1 p0 (IntKind.i64.wrap (1 + (IntKind.i64.wrap x15606)))).bind fun x15614 => ((cutI x15614.1 1 (x15614.1.length : Int)).bind fun y15629 => (some (y15629, x15614.2)))))
def g35 (p0 : T_pack_Reader) (p1 : Int) : Option ((List Int) × T_pack_Reader) :=
  (g56_1 p0).bind fun x15543 => (if x15543 = true then (some ([], p0)) else (if p1 < 0 then (g35_j1 p0 1) else (if (p0.b.length : Int) = 0 then (g35_j1 p0 10) else ((getI p0.b 0).bind fun x15643 => (if (IntKind.i64.wrap x15643) > p1 then (g35_j1 p0 3) else ((getI p0.b 0).bind fun x15658 => (if (IntKind.i64.wrap x15658) ≥ (p0.b.length : Int) then (g35_j1 p0 10) else (g35_j1 p0 0))))))))

-- (*incipit/pack.Reader).Err (('obj', 85, ('ro', '.', '.')),)
def g36 (p0 : T_pack_Reader) : Option Int :=
  if ¬ (p0.made = true) then (some 2) else (some p0.err)

-- bytes.Equal 
def g24 (p0 : (List Int)) (p1 : (List Int)) : Option Bool :=
  some (decide ((strOfNums p0).toList = (strOfNums p1).toList))

-- incipit/head.Get 
def g14_l1B (p0 : Int) (p1 : (List Int)) (x15880 : (Int × T_pack_Reader)) (x17063 : (Int × T_pack_Reader)) (rec17828 : Int → (List Int) → Int → Bool → (List Int) → Option (T_api_Head × Int)) (x17414 : Int) (x17415 : (List Int)) (x17420 : Int) (x17421 : Bool) (x17422 : (List Int)) : Option (T_api_Head × Int) :=
  if x17414 < (if 3 < x17063.1 then 3 else x17063.1) then ((g33 (T_pack_Reader.mk x17415 x17420 x17421)).bind fun x18145 => ((appI x17422 ([IntKind.i64.wrap x18145.1] : List Int) 8).bind fun x18175 => (rec17828 (IntKind.u8.wrap (x17414 + 1)) x18145.2.b x18145.2.err x18145.2.made x18175))) else ((g35 (T_pack_Reader.mk x17415 x17420 x17421) 32).bind fun x18227 => ((g36 x18227.2).bind fun x18255 => (if x18255 ≠ 0 then (some ((T_api_Head.mk 0 0 ([] : List Int) []), 60)) else ((g17 (T_api_Head.mk p0 (IntKind.i64.wrap x15880.1) x17422 x18227.1)).bind fun x18327 => (if x18327.2 ≠ 0 then (some ((T_api_Head.mk 0 0 ([] : List Int) []), 60)) else ((g24 x18327.1 p1).bind fun x18366 => (if ¬ (x18366 = true) then (some ((T_api_Head.mk 0 0 ([] : List Int) []), 60)) else (some ((T_api_Head.mk p0 (IntKind.i64.wrap x15880.1) x17422 x18227.1), 0)))))))))
def g14_l1 (p0 : Int) (p1 : (List Int)) (x15880 : (Int × T_pack_Reader)) (x17063 : (Int × T_pack_Reader)) : Nat → Int → (List Int) → Int → Bool → (List Int) → Option (T_api_Head × Int)
  | 0, _, _, _, _, _ => none
  | n + 1, x17414, x17415, x17420, x17421, x17422 => g14_l1B p0 p1 x15880 x17063 (g14_l1 p0 p1 x15880 x17063 n) x17414 x17415 x17420 x17421 x17422
def g14 (p0 : Int) (p1 : (List Int)) : Option (T_api_Head × Int) :=
  (g32 p1).bind fun x15865 => ((g33_1 x15865).bind fun x15880 => ((g34 x15880.2).bind fun x17063 => (g14_l1 p0 p1 x15880 x17063 FUEL 0 x17063.2.b x17063.2.err x17063.2.made ([] : List Int))))

-- incipit/head.read 
def g30_j2 (p0 : Int) (x18678 : Int) (x18679 : (List Int)) (x18724 : Bool) : Option (T_api_Head × Bool) :=
  if x18724 = true then (some ((T_api_Head.mk 0 0 ([] : List Int) []), false)) else ((g14 x18678 x18679).bind fun x18731 => (if x18731.2 = 0 then (some (x18731.1, decide (x18731.1.Pages = p0))) else (some (x18731.1, false))))
def g30_j1 (p0 : Int) (p1 : Int) (x18676 : Int) (x18677 : Int) (x18678 : Int) (x18679 : (List Int)) (x18684 : Int) : Option (T_api_Head × Bool) :=
  if x18684 ≠ 0 then (g30_j2 p0 x18678 x18679 true) else ((g25 x18678).bind fun x18797 => (g30_j2 p0 x18678 x18679 (decide (x18797 ≠ p1))))
def g30_j3 (p0 : Int) (p1 : Int) (x18807 : (T_api_Frame × Int)) : Option (T_api_Head × Bool) :=
  g30_j1 p0 p1 x18807.1.Kind x18807.1.Page x18807.1.Epoch x18807.1.Data x18807.2
def g30 (p0 : Int) (p1 : Int) (p2 : (List Int)) : Option (T_api_Head × Bool) :=
  (g70 p2 p1).bind fun x18807 => (if x18807.2 = 0 then ((g65 ([1] : List Int) x18807.1.Kind).bind fun x18880 => (if ¬ (x18880 = true) then (g30_j1 p0 p1 0 0 0 [] 42) else (g30_j3 p0 p1 x18807))) else (g30_j3 p0 p1 x18807))

-- incipit/head.Choose 
def g10_j2 (x21778 : Int) (rec21995 : Int → Int → Int → Int → (List Int) → (List Int) → Option (T_api_Head × Int × Int)) (x22057 : Int) (x22058 : (List Int)) (x22063 : Bool) (x22064 : (List Int)) (x22069 : Int) (x22070 : Int) (x22071 : (List Int)) (x22076 : (List Int)) (x22081 : Bool) (x22082 : (List Int)) (x22087 : Int) (x22088 : Int) (x22089 : (List Int)) (x22094 : (List Int)) (x22099 : Bool) (x22100 : Int) (x22101 : Int) (x22102 : (List Int)) (x22107 : (List Int)) (x22112 : Bool) (x22113 : Bool) (x22114 : Bool) (x22115 : Bool) (x22116 : Bool) (x22117 : Int) (x22118 : Int) (x22119 : (List Int)) (x22124 : (List Int)) (x22129 : Int) (x22130 : Int) (x22131 : (List Int)) (x22136 : (List Int)) : Option (T_api_Head × Int × Int) :=
  rec21995 x22057 (IntKind.i64.wrap (x21778 + 1)) x22129 x22130 x22131 x22136
def g10_l1B (p0 : Int) (y21450 : (List (List Int))) (rec21995 : Int → Int → Int → Int → (List Int) → (List Int) → Option (T_api_Head × Int × Int)) (x21777 : Int) (x21778 : Int) (x21779 : Int) (x21780 : Int) (x21781 : (List Int)) (x21786 : (List Int)) : Option (T_api_Head × Int × Int) :=
  if x21778 < (y21450.length : Int) then ((getI y21450 x21778).bind fun x22145 => ((g30 p0 x21778 x22145).bind fun x22159 => (if ¬ (x22159.2 = true) then (g10_j2 x21778 rec21995 x21777 x22145 x22159.2 x22145 x22159.1.Epoch x22159.1.Pages x22159.1.Maps x22159.1.User x22159.2 x22145 x22159.1.Epoch x22159.1.Pages x22159.1.Maps x22159.1.User x22159.2 x22159.1.Epoch x22159.1.Pages x22159.1.Maps x22159.1.User x22159.2 x22159.2 (decide (¬ (x22159.2 = true))) true true x22159.1.Epoch x22159.1.Pages x22159.1.Maps x22159.1.User x21779 x21780 x21781 x21786) else (if x21777 ≥ 0 then (if x22159.1.Epoch ≤ x21779 then (g10_j2 x21778 rec21995 x21777 x22145 x22159.2 x22145 x22159.1.Epoch x22159.1.Pages x22159.1.Maps x22159.1.User x22159.2 x22145 x22159.1.Epoch x22159.1.Pages x22159.1.Maps x22159.1.User x22159.2 x22159.1.Epoch x22159.1.Pages x22159.1.Maps x22159.1.User x22159.2 x22159.2 (decide (¬ (x22159.2 = true))) false (decide (x22159.1.Epoch ≤ x21779)) x22159.1.Epoch x22159.1.Pages x22159.1.Maps x22159.1.User x21779 x21780 x21781 x21786) else (g10_j2 x21778 rec21995 x21778 x22145 x22159.2 x22145 x22159.1.Epoch x22159.1.Pages x22159.1.Maps x22159.1.User x22159.2 x22145 x22159.1.Epoch x22159.1.Pages x22159.1.Maps x22159.1.User x22159.2 x22159.1.Epoch x22159.1.Pages x22159.1.Maps x22159.1.User x22159.2 x22159.2 (decide (¬ (x22159.2 = true))) false (decide (x22159.1.Epoch ≤ x21779)) x22159.1.Epoch x22159.1.Pages x22159.1.Maps x22159.1.User x22159.1.Epoch x22159.1.Pages x22159.1.Maps x22159.1.User)) else (g10_j2 x21778 rec21995 x21778 x22145 x22159.2 x22145 x22159.1.Epoch x22159.1.Pages x22159.1.Maps x22159.1.User x22159.2 x22145 x22159.1.Epoch x22159.1.Pages x22159.1.Maps x22159.1.User x22159.2 x22159.1.Epoch x22159.1.Pages x22159.1.Maps x22159.1.User x22159.2 x22159.2 (decide (¬ (x22159.2 = true))) false false x22159.1.Epoch x22159.1.Pages x22159.1.Maps x22159.1.User x22159.1.Epoch x22159.1.Pages x22159.1.Maps x22159.1.User))))) else (if x21777 < 0 then (some ((T_api_Head.mk 0 0 [] []), 0, 60)) else (some ((T_api_Head.mk x21779 x21780 x21781 x21786), x21777, 0)))
def g10_l1 (p0 : Int) (y21450 : (List (List Int))) : Nat → Int → Int → Int → Int → (List Int) → (List Int) → Option (T_api_Head × Int × Int)
  | 0, _, _, _, _, _, _ => none
  | n + 1, x21777, x21778, x21779, x21780, x21781, x21786 => g10_l1B p0 y21450 (g10_l1 p0 y21450 n) x21777 x21778 x21779 x21780 x21781 x21786
def g10 (p0 : Int) (p1 : (List (List Int))) : Option (T_api_Head × Int × Int) :=
  (cutI p1 0 (if 2 < (p1.length : Int) then 2 else (p1.length : Int))).bind fun y21450 => (g10_l1 p0 y21450 FUEL (-1) 0 0 0 [] [])

-- incipit/incipitref06.Same (('agg', ('.', '.', 'ro', 'ro')), ('agg', ('.', '.', 'ro', 'ro')))
def g12_l2B (p0 : T_api_Head) (p1 : T_api_Head) (rec24504 : Int → Option Bool) (x24449 : Int) : Option Bool :=
  if x24449 < (p0.Maps.length : Int) then ((getI p0.Maps x24449).bind fun x24540 => ((getI p1.Maps x24449).bind fun x24549 => (if x24540 ≠ x24549 then (some false) else (rec24504 (IntKind.i64.wrap (x24449 + 1)))))) else (some true)
def g12_l2 (p0 : T_api_Head) (p1 : T_api_Head) : Nat → Int → Option Bool
  | 0, _ => none
  | n + 1, x24449 => g12_l2B p0 p1 (g12_l2 p0 p1 n) x24449
def g12_j1 (p0 : T_api_Head) (p1 : T_api_Head) (x24227 : Bool) : Option Bool :=
  if x24227 = true then (some false) else (g12_l2 p0 p1 FUEL 0)
def g12 (p0 : T_api_Head) (p1 : T_api_Head) : Option Bool :=
  if p0.Epoch ≠ p1.Epoch then (g12_j1 p0 p1 true) else (if p0.Pages ≠ p1.Pages then (g12_j1 p0 p1 true) else (if (p0.Maps.length : Int) ≠ (p1.Maps.length : Int) then (g12_j1 p0 p1 true) else (g12_j1 p0 p1 (decide ((strOfNums p0.User).toList ≠ (strOfNums p1.User).toList)))))

-- incipit/incipitlaw06.live 
def g9_j2 (x27931 : Bool) : Option Bool :=
  some x27931
def g9_j1 (x26227 : ((List Int) × Int)) (x27834 : Int) (x27835 : Int) (x27836 : (List Int)) (x27841 : (List Int)) (x27846 : Int) (x27847 : Int) : Option Bool :=
  if x26227.2 = 0 then (if x27847 = 0 then (if x27846 = 1 then ((g29).bind fun x27945 => ((g12 (T_api_Head.mk x27834 x27835 x27836 x27841) x27945).bind fun x27974 => (if x27974 = true then (if (x26227.1.length : Int) = 240 then ((cutI x26227.1 0 8).bind fun y27983 => ((g24 y27983 ([0, 64, 1, 0, 2, 1, 7, 0] : List Int)).bind fun x28002 => (g9_j2 x28002))) else (g9_j2 false)) else (g9_j2 false)))) else (g9_j2 false)) else (g9_j2 false)) else (g9_j2 false)
def g9_j4 (x29091 : Int) (rec29309 : Int → Int → Int → Int → (List Int) → (List Int) → Option Bool) (x29371 : Int) (x29372 : (List Int)) (x29377 : Bool) (x29379 : (List Int)) (x29384 : Int) (x29385 : Int) (x29386 : (List Int)) (x29391 : (List Int)) (x29396 : Bool) (x29397 : (List Int)) (x29402 : Int) (x29403 : Int) (x29404 : (List Int)) (x29409 : (List Int)) (x29414 : Bool) (x29415 : Int) (x29416 : Int) (x29417 : (List Int)) (x29422 : (List Int)) (x29427 : Bool) (x29428 : Bool) (x29429 : Bool) (x29430 : Bool) (x29431 : Bool) (x29432 : Int) (x29433 : Int) (x29434 : (List Int)) (x29439 : (List Int)) (x29444 : Int) (x29445 : Int) (x29446 : (List Int)) (x29451 : (List Int)) : Option Bool :=
  rec29309 x29371 (IntKind.i64.wrap (x29091 + 1)) x29444 x29445 x29446 x29451
def g9_l3B (x26227 : ((List Int) × Int)) (x26274 : (List Int)) (rec29309 : Int → Int → Int → Int → (List Int) → (List Int) → Option Bool) (x29090 : Int) (x29091 : Int) (x29092 : Int) (x29093 : Int) (x29094 : (List Int)) (x29099 : (List Int)) : Option Bool :=
  if x29091 < ((List.take ((if 2 < (([[], x26274] : List (List Int)).length : Int) then 2 else (([[], x26274] : List (List Int)).length : Int)).toNat) ([[], x26274] : List (List Int))).length : Int) then ((getI (List.take ((if 2 < (([[], x26274] : List (List Int)).length : Int) then 2 else (([[], x26274] : List (List Int)).length : Int)).toNat) ([[], x26274] : List (List Int))) x29091).bind fun x29460 => ((g30 64 x29091 x29460).bind fun x29474 => (if ¬ (x29474.2 = true) then (g9_j4 x29091 rec29309 x29090 x29460 x29474.2 x29460 x29474.1.Epoch x29474.1.Pages x29474.1.Maps x29474.1.User x29474.2 x29460 x29474.1.Epoch x29474.1.Pages x29474.1.Maps x29474.1.User x29474.2 x29474.1.Epoch x29474.1.Pages x29474.1.Maps x29474.1.User x29474.2 x29474.2 (decide (¬ (x29474.2 = true))) true true x29474.1.Epoch x29474.1.Pages x29474.1.Maps x29474.1.User x29092 x29093 x29094 x29099) else (if x29090 ≥ 0 then (if x29474.1.Epoch ≤ x29092 then (g9_j4 x29091 rec29309 x29090 x29460 x29474.2 x29460 x29474.1.Epoch x29474.1.Pages x29474.1.Maps x29474.1.User x29474.2 x29460 x29474.1.Epoch x29474.1.Pages x29474.1.Maps x29474.1.User x29474.2 x29474.1.Epoch x29474.1.Pages x29474.1.Maps x29474.1.User x29474.2 x29474.2 (decide (¬ (x29474.2 = true))) false (decide (x29474.1.Epoch ≤ x29092)) x29474.1.Epoch x29474.1.Pages x29474.1.Maps x29474.1.User x29092 x29093 x29094 x29099) else (g9_j4 x29091 rec29309 x29091 x29460 x29474.2 x29460 x29474.1.Epoch x29474.1.Pages x29474.1.Maps x29474.1.User x29474.2 x29460 x29474.1.Epoch x29474.1.Pages x29474.1.Maps x29474.1.User x29474.2 x29474.1.Epoch x29474.1.Pages x29474.1.Maps x29474.1.User x29474.2 x29474.2 (decide (¬ (x29474.2 = true))) false (decide (x29474.1.Epoch ≤ x29092)) x29474.1.Epoch x29474.1.Pages x29474.1.Maps x29474.1.User x29474.1.Epoch x29474.1.Pages x29474.1.Maps x29474.1.User)) else (g9_j4 x29091 rec29309 x29091 x29460 x29474.2 x29460 x29474.1.Epoch x29474.1.Pages x29474.1.Maps x29474.1.User x29474.2 x29460 x29474.1.Epoch x29474.1.Pages x29474.1.Maps x29474.1.User x29474.2 x29474.1.Epoch x29474.1.Pages x29474.1.Maps x29474.1.User x29474.2 x29474.2 (decide (¬ (x29474.2 = true))) false false x29474.1.Epoch x29474.1.Pages x29474.1.Maps x29474.1.User x29474.1.Epoch x29474.1.Pages x29474.1.Maps x29474.1.User))))) else (if x29090 < 0 then (g9_j1 x26227 0 0 [] [] 0 60) else (g9_j1 x26227 x29092 x29093 x29094 x29099 x29090 0))
def g9_l3 (x26227 : ((List Int) × Int)) (x26274 : (List Int)) : Nat → Int → Int → Int → Int → (List Int) → (List Int) → Option Bool
  | 0, _, _, _, _, _, _ => none
  | n + 1, x29090, x29091, x29092, x29093, x29094, x29099 => g9_l3B x26227 x26274 (g9_l3 x26227 x26274 n) x29090 x29091 x29092 x29093 x29094 x29099
def g9  : Option Bool :=
  (g29).bind fun x26198 => ((g17 x26198).bind fun x26227 => ((g29).bind fun x26245 => ((g27 x26245).bind fun x26274 => (if (0 : Int) ≤ (if 2 < (([[], x26274] : List (List Int)).length : Int) then 2 else (([[], x26274] : List (List Int)).length : Int)) ∧ (if 2 < (([[], x26274] : List (List Int)).length : Int) then 2 else (([[], x26274] : List (List Int)).length : Int)) ≤ (([[], x26274] : List (List Int)).length : Int) then (g9_l3 x26227 x26274 FUEL (-1) 0 0 0 [] []) else none))))

-- incipit/incipitref02.goes 
def g87_l1B (rec30035 : Int → Int → Option Int) (x30029 : Int) (x30030 : Int) : Option Int :=
  if x30030 < 8 then (if (andI .u32 x30029 1) = 1 then (rec30035 (xorI .u32 (shrI .u32 x30029 1) 2197175160) (IntKind.i64.wrap (x30030 + 1))) else (rec30035 (shrI .u32 x30029 1) (IntKind.i64.wrap (x30030 + 1)))) else (some x30029)
def g87_l1  : Nat → Int → Int → Option Int
  | 0, _, _ => none
  | n + 1, x30029, x30030 => g87_l1B (g87_l1 n) x30029 x30030
def g87 (p0 : Int) (p1 : Int) : Option Int :=
  g87_l1 FUEL (xorI .u32 p0 (IntKind.u32.wrap p1)) 0

-- incipit/incipitref02.Add 
def g82_l2B (p1 : (List (List Int))) (x33808 : Int) (rec34189 : Int → Int → Option Int) (rec34506 : Int → Int → Option Int) (x34443 : Int) (x34444 : Int) : Option Int :=
  (getI p1 x33808).bind fun x34524 => (if x34444 < (x34524.length : Int) then ((getI p1 x33808).bind fun x34539 => ((getI x34539 x34444).bind fun x34553 => ((g87 x34443 x34553).bind fun x34561 => (rec34506 x34561 (IntKind.i64.wrap (x34444 + 1)))))) else (rec34189 x34443 (IntKind.i64.wrap (x33808 + 1))))
def g82_l2 (p1 : (List (List Int))) (x33808 : Int) (rec34189 : Int → Int → Option Int) : Nat → Int → Int → Option Int
  | 0, _, _ => none
  | n + 1, x34443, x34444 => g82_l2B p1 x33808 rec34189 (g82_l2 p1 x33808 rec34189 n) x34443 x34444
def g82_l1B (p1 : (List (List Int))) (rec34189 : Int → Int → Option Int) (x33807 : Int) (x33808 : Int) : Option Int :=
  if x33808 < (p1.length : Int) then (g82_l2 p1 x33808 rec34189 FUEL x33807 0) else (some (cplI .u32 x33807))
def g82_l1 (p1 : (List (List Int))) : Nat → Int → Int → Option Int
  | 0, _, _ => none
  | n + 1, x33807, x33808 => g82_l1B p1 (g82_l1 p1 n) x33807 x33808
def g82 (p0 : Int) (p1 : (List (List Int))) : Option Int :=
  g82_l1 p1 FUEL (cplI .u32 p0) 0

-- incipit/incipitref02.One 
def g76 (p0 : (List Int)) : Option Int :=
  (g82 0 ([p0] : List (List Int))).bind fun x34598 => (some x34598)

-- incipit/incipitref02.Seal 
def g63 (p0 : (List Int)) : Option (List Int) :=
  (g76 p0).bind fun x34634 => ((appI ([IntKind.u8.wrap (shrI .u32 x34634 24), IntKind.u8.wrap (shrI .u32 x34634 16), IntKind.u8.wrap (shrI .u32 x34634 8), IntKind.u8.wrap x34634] : List Int) p0 1).bind fun x34649 => (some x34649))

-- incipit/incipitref02.Open 
def g71 (p0 : (List Int)) : Option ((List Int) × Bool) :=
  if (p0.length : Int) < 4 then (some (([] : List Int), false)) else ((cutI p0 4 (p0.length : Int)).bind fun y34710 => ((g63 y34710).bind fun x34720 => (if (strOfNums x34720).toList ≠ (strOfNums p0).toList then (some (([] : List Int), false)) else ((cutI p0 4 (p0.length : Int)).bind fun y34738 => ((appI ([] : List Int) y34738 1).bind fun x34752 => (some (x34752, true)))))))

-- incipit/incipitref04.Get 
def g53_l3B (x35154 : ((List Int) × Bool)) (x35292 : Int) (x35345 : Int) (rec35477 : Int → Int → Option (T_api_Frame × Int)) (x35453 : Int) (x35454 : Int) : Option (T_api_Frame × Int) :=
  if x35453 < 12 then ((getI x35154.1 x35453).bind fun x35488 => ((some (IntKind.u64.wrap ((IntKind.u64.wrap (x35454 * 256)) + (IntKind.u64.wrap x35488)))).bind fun x35496 => (rec35477 (IntKind.i64.wrap (x35453 + 1)) x35496))) else ((cutI x35154.1 12 (x35154.1.length : Int)).bind fun y35502 => (some ((T_api_Frame.mk (IntKind.i64.wrap x35345) x35292 x35454 y35502), 0)))
def g53_l3 (x35154 : ((List Int) × Bool)) (x35292 : Int) (x35345 : Int) : Nat → Int → Int → Option (T_api_Frame × Int)
  | 0, _, _ => none
  | n + 1, x35453, x35454 => g53_l3B x35154 x35292 x35345 (g53_l3 x35154 x35292 x35345 n) x35453 x35454
def g53_j2 (x35154 : ((List Int) × Bool)) (x35292 : Int) (x35305 : Bool) : Option (T_api_Frame × Int) :=
  if x35305 = true then (some ((T_api_Frame.mk 0 0 0 ([] : List Int)), 41)) else ((getI x35154.1 0).bind fun x35345 => (if (0 : Int) ≤ 12 ∧ 12 ≤ (x35154.1.length : Int) ∧ (x35154.1.length : Int) ≤ (x35154.1.length : Int) then (g53_l3 x35154 x35292 x35345 FUEL 4 0) else none))
def g53_j1 (p1 : Int) (x35154 : ((List Int) × Bool)) (x35265 : Bool) : Option (T_api_Frame × Int) :=
  if x35265 = true then (some ((T_api_Frame.mk 0 0 0 ([] : List Int)), 42)) else ((getI x35154.1 2).bind fun x35276 => ((getI x35154.1 3).bind fun x35284 => ((some (IntKind.i64.wrap ((IntKind.i64.wrap ((IntKind.i64.wrap x35276) * 256)) + (IntKind.i64.wrap x35284)))).bind fun x35292 => (if x35292 ≠ p1 then (g53_j2 x35154 x35292 true) else (g53_j2 x35154 x35292 (decide (x35292 ≥ 2048)))))))
def g53 (p0 : (List Int)) (p1 : Int) : Option (T_api_Frame × Int) :=
  if (p0.length : Int) ≠ 256 then (some ((T_api_Frame.mk 0 0 0 ([] : List Int)), 1)) else ((g71 p0).bind fun x35154 => (if ¬ (x35154.2 = true) then (some ((T_api_Frame.mk 0 0 0 ([] : List Int)), 40)) else ((getI x35154.1 0).bind fun x35512 => (if x35512 < 1 then (g53_j1 p1 x35154 true) else ((getI x35154.1 0).bind fun x35521 => (if x35521 > 4 then (g53_j1 p1 x35154 true) else ((getI x35154.1 1).bind fun x35530 => (g53_j1 p1 x35154 (decide (x35530 ≠ 0))))))))))

-- incipit/incipitref04.Want 
def g31_l1B (p2 : (List Int)) (x35848 : (T_api_Frame × Int)) (rec36090 : Int → Option (T_api_Frame × Int)) (x36049 : Int) : Option (T_api_Frame × Int) :=
  if x36049 < (p2.length : Int) then ((getI p2 x36049).bind fun x36119 => (if x36119 = x35848.1.Kind then (some (x35848.1, 0)) else (rec36090 (IntKind.i64.wrap (x36049 + 1))))) else (some ((T_api_Frame.mk 0 0 0 []), 42))
def g31_l1 (p2 : (List Int)) (x35848 : (T_api_Frame × Int)) : Nat → Int → Option (T_api_Frame × Int)
  | 0, _ => none
  | n + 1, x36049 => g31_l1B p2 x35848 (g31_l1 p2 x35848 n) x36049
def g31 (p0 : (List Int)) (p1 : Int) (p2 : (List Int)) : Option (T_api_Frame × Int) :=
  (g53 p0 p1).bind fun x35848 => (if x35848.2 ≠ 0 then (some ((T_api_Frame.mk 0 0 0 []), x35848.2)) else (g31_l1 p2 x35848 FUEL 0))

-- incipit/incipitref06.Need 
def g43 (p0 : Int) : Option Int :=
  if p0 > 1024 then (some 2) else (some 1)

-- incipit/incipitref06.Check (('agg', ('.', '.', 'ro', 'ro')),)
def g22_j3 (x39977 : Int) (rec40196 : Int → Option Int) (x40354 : (List Int)) (x40359 : Int) (x40360 : Bool) (x40361 : Bool) (x40362 : Bool) (x40363 : Bool) (x40364 : Bool) : Option Int :=
  if x40364 = true then (some 60) else (rec40196 (IntKind.i64.wrap (x39977 + 1)))
def g22_l2B (p0 : T_api_Head) (rec40196 : Int → Option Int) (x39977 : Int) : Option Int :=
  if x39977 < (p0.Maps.length : Int) then ((getI p0.Maps x39977).bind fun x40376 => (if x40376 < 2 then (g22_j3 x39977 rec40196 p0.Maps x40376 (decide (x40376 < 2)) true true true true) else ((getI p0.Maps x39977).bind fun x40386 => (if x40386 ≥ p0.Pages then (g22_j3 x39977 rec40196 p0.Maps x40376 (decide (x40376 < 2)) false (decide (x40386 ≥ p0.Pages)) true true) else (if x39977 > 0 then ((getI p0.Maps x39977).bind fun x40397 => ((getI p0.Maps 0).bind fun x40406 => (g22_j3 x39977 rec40196 p0.Maps x40376 (decide (x40376 < 2)) false (decide (x40386 ≥ p0.Pages)) false (decide (x40397 = x40406))))) else (g22_j3 x39977 rec40196 p0.Maps x40376 (decide (x40376 < 2)) false (decide (x40386 ≥ p0.Pages)) false false)))))) else (some 0)
def g22_l2 (p0 : T_api_Head) : Nat → Int → Option Int
  | 0, _ => none
  | n + 1, x39977 => g22_l2B p0 (g22_l2 p0 n) x39977
def g22_j1 (p0 : T_api_Head) (x38877 : Bool) : Option Int :=
  if x38877 = true then (some 60) else (g22_l2 p0 FUEL 0)
def g22 (p0 : T_api_Head) : Option Int :=
  if p0.Pages < 8 then (g22_j1 p0 true) else (if p0.Pages > 2048 then (g22_j1 p0 true) else ((g43 p0.Pages).bind fun x40427 => (if (p0.Maps.length : Int) ≠ x40427 then (g22_j1 p0 true) else (g22_j1 p0 (decide ((p0.User.length : Int) > 32))))))

-- incipit/incipitref06.two ('own', '.')
def g39 (p0 : (List Int)) (p1 : Int) : Option (List Int) :=
  (appI p0 ([IntKind.u8.wrap (IntKind.i64.wrap (Int.tdiv p1 256)), IntKind.u8.wrap (Int.tmod p1 256)] : List Int) 1).bind fun x40513 => (some x40513)

-- incipit/incipitref06.Put (('agg', ('.', '.', 'ro', 'ro')),)
def g18_l3B (rec41648 : (List Int) → Option ((List Int) × Int)) (x41620 : (List Int)) : Option ((List Int) × Int) :=
  if (x41620.length : Int) < 240 then ((appI x41620 ([0] : List Int) 1).bind fun x41661 => (rec41648 x41661)) else (some (x41620, 0))
def g18_l3  : Nat → (List Int) → Option ((List Int) × Int)
  | 0, _ => none
  | n + 1, x41620 => g18_l3B (g18_l3 n) x41620
def g18_l2B (p0 : T_api_Head) (rec41392 : (List Int) → Int → Option ((List Int) × Int)) (x41357 : (List Int)) (x41365 : Int) : Option ((List Int) × Int) :=
  if x41365 < (p0.Maps.length : Int) then ((getI p0.Maps x41365).bind fun x41397 => ((g39 x41357 x41397).bind fun x41405 => (rec41392 x41405 (IntKind.i64.wrap (x41365 + 1))))) else ((appI x41357 ([IntKind.u8.wrap (p0.User.length : Int)] : List Int) 1).bind fun x41510 => ((appI x41510 p0.User 1).bind fun x41521 => (g18_l3 FUEL x41521)))
def g18_l2 (p0 : T_api_Head) : Nat → (List Int) → Int → Option ((List Int) × Int)
  | 0, _, _ => none
  | n + 1, x41357, x41365 => g18_l2B p0 (g18_l2 p0 n) x41357 x41365
def g18_j1 (p0 : T_api_Head) (x41231 : (List Int)) : Option ((List Int) × Int) :=
  g18_l2 p0 FUEL x41231 0
def g18 (p0 : T_api_Head) : Option ((List Int) × Int) :=
  (g22 p0).bind fun x41143 => (if x41143 ≠ 0 then (some (([] : List Int), x41143)) else ((g39 ([] : List Int) p0.Pages).bind fun x41682 => ((appI x41682 ([IntKind.u8.wrap (p0.Maps.length : Int)] : List Int) 1).bind fun x41719 => (g18_j1 p0 x41719))))

-- incipit/incipitref06.Get 
def g15_l1B (p0 : Int) (p1 : (List Int)) (x41876 : Int) (x41883 : Int) (rec42387 : Int → (List Int) → Option (T_api_Head × Int)) (x42286 : Int) (x42287 : (List Int)) : Option (T_api_Head × Int) :=
  if x42286 < (IntKind.i64.wrap x41883) then ((getI p1 (IntKind.i64.wrap (3 + (IntKind.i64.wrap (2 * x42286))))).bind fun x42442 => ((getI p1 (IntKind.i64.wrap (4 + (IntKind.i64.wrap (2 * x42286))))).bind fun x42451 => ((some (IntKind.i64.wrap ((IntKind.i64.wrap ((IntKind.i64.wrap x42442) * 256)) + (IntKind.i64.wrap x42451)))).bind fun x42460 => ((appI x42287 ([x42460] : List Int) 8).bind fun x42470 => (rec42387 (IntKind.i64.wrap (x42286 + 1)) x42470))))) else ((some (IntKind.i64.wrap (3 + (IntKind.i64.wrap (2 * (IntKind.i64.wrap x41883)))))).bind fun x42480 => ((getI p1 x42480).bind fun x42482 => (if (IntKind.i64.wrap x42482) > 32 then (some ((T_api_Head.mk 0 0 ([] : List Int) ([] : List Int)), 60)) else ((some (IntKind.i64.wrap ((IntKind.i64.wrap (x42480 + 1)) + (IntKind.i64.wrap x42482)))).bind fun x42506 => ((cutI p1 (IntKind.i64.wrap (x42480 + 1)) x42506).bind fun y42508 => ((appI ([] : List Int) y42508 1).bind fun x42522 => ((g18 (T_api_Head.mk p0 x41876 x42287 x42522)).bind fun x42540 => (if x42540.2 ≠ 0 then (some ((T_api_Head.mk 0 0 ([] : List Int) ([] : List Int)), 60)) else (if (strOfNums x42540.1).toList ≠ (strOfNums p1).toList then (some ((T_api_Head.mk 0 0 ([] : List Int) ([] : List Int)), 60)) else (some ((T_api_Head.mk p0 x41876 x42287 x42522), 0)))))))))))
def g15_l1 (p0 : Int) (p1 : (List Int)) (x41876 : Int) (x41883 : Int) : Nat → Int → (List Int) → Option (T_api_Head × Int)
  | 0, _, _ => none
  | n + 1, x42286, x42287 => g15_l1B p0 p1 x41876 x41883 (g15_l1 p0 p1 x41876 x41883 n) x42286 x42287
def g15 (p0 : Int) (p1 : (List Int)) : Option (T_api_Head × Int) :=
  if (p1.length : Int) ≠ 240 then (some ((T_api_Head.mk 0 0 ([] : List Int) ([] : List Int)), 60)) else ((getI p1 0).bind fun x41858 => ((getI p1 1).bind fun x41867 => ((some (IntKind.i64.wrap ((IntKind.i64.wrap ((IntKind.i64.wrap x41858) * 256)) + (IntKind.i64.wrap x41867)))).bind fun x41876 => ((getI p1 2).bind fun x41883 => (if (IntKind.i64.wrap x41883) > 2 then (some ((T_api_Head.mk 0 0 ([] : List Int) ([] : List Int)), 60)) else (g15_l1 p0 p1 x41876 x41883 FUEL 0 ([] : List Int)))))))

-- incipit/incipitref06.Page 
def g26 (p0 : Int) : Option Int :=
  some (IntKind.i64.wrap (Int.tmod p0 2))

-- incipit/incipitref06.Choose 
def g11_j3 (x62668 : Int) (rec64156 : Int → Int → Int → Int → (List Int) → (List Int) → Option (T_api_Head × Int × Int)) (x64860 : Int) (x64861 : Int) (x64862 : Int) (x64863 : Int) (x64864 : Int) (x64865 : (List Int)) (x64870 : Int) (x64871 : (List (List Int))) (x64876 : (List Int)) (x64881 : (List Int)) (x64889 : Int) (x64890 : Int) (x64891 : Int) (x64892 : (List Int)) (x64897 : Int) (x64898 : Int) (x64899 : Int) (x64900 : Int) (x64901 : (List Int)) (x64906 : Int) (x64907 : Int) (x64908 : Bool) (x64909 : Int) (x64910 : Int) (x64911 : (List Int)) (x64919 : (List Int)) : Option (T_api_Head × Int × Int) :=
  rec64156 x64860 (IntKind.i64.wrap (x62668 + 1)) x64909 x64910 x64911 x64919
def g11_j5 (p1 : (List (List Int))) (x62667 : Int) (x62668 : Int) (x62669 : Int) (x62670 : Int) (x62671 : (List Int)) (x62679 : (List Int)) (rec64156 : Int → Int → Int → Int → (List Int) → (List Int) → Option (T_api_Head × Int × Int)) (x64931 : (List Int)) (x65247 : Int) (x65248 : Int) (x65249 : Int) (x65250 : (List Int)) (x65255 : Int) (x65265 : (T_api_Head × Int)) (x65320 : Bool) (x65321 : Bool) (x65322 : Bool) (x65323 : Bool) : Option (T_api_Head × Int × Int) :=
  if x65323 = true then (g11_j3 x62668 rec64156 x62667 x65265.2 x65247 x65248 x65249 x65250 x65255 p1 x64931 ([1] : List Int) x65247 x65248 x65249 x65250 x65255 x65247 x65248 x65249 x65250 x65255 x65255 (decide (x65255 ≠ 0)) x62669 x62670 x62671 x62679) else (if x62667 < 0 then (g11_j3 x62668 rec64156 x62668 x65265.2 x65247 x65248 x65249 x65250 x65255 p1 x64931 ([1] : List Int) x65247 x65248 x65249 x65250 x65255 x65247 x65248 x65249 x65250 x65255 x65255 (decide (x65255 ≠ 0)) x65265.1.Epoch x65265.1.Pages x65265.1.Maps x65265.1.User) else (if x65265.1.Epoch > x62669 then (g11_j3 x62668 rec64156 x62668 x65265.2 x65247 x65248 x65249 x65250 x65255 p1 x64931 ([1] : List Int) x65247 x65248 x65249 x65250 x65255 x65247 x65248 x65249 x65250 x65255 x65255 (decide (x65255 ≠ 0)) x65265.1.Epoch x65265.1.Pages x65265.1.Maps x65265.1.User) else (g11_j3 x62668 rec64156 x62667 x65265.2 x65247 x65248 x65249 x65250 x65255 p1 x64931 ([1] : List Int) x65247 x65248 x65249 x65250 x65255 x65247 x65248 x65249 x65250 x65255 x65255 (decide (x65255 ≠ 0)) x62669 x62670 x62671 x62679)))
def g11_j4 (p0 : Int) (p1 : (List (List Int))) (x62667 : Int) (x62668 : Int) (x62669 : Int) (x62670 : Int) (x62671 : (List Int)) (x62679 : (List Int)) (rec64156 : Int → Int → Int → Int → (List Int) → (List Int) → Option (T_api_Head × Int × Int)) (x64931 : (List Int)) (x65247 : Int) (x65248 : Int) (x65249 : Int) (x65250 : (List Int)) (x65255 : Int) : Option (T_api_Head × Int × Int) :=
  if x65255 ≠ 0 then (g11_j3 x62668 rec64156 x62667 x65255 x65247 x65248 x65249 x65250 x65255 p1 x64931 ([1] : List Int) x65247 x65248 x65249 x65250 x65255 x65247 x65248 x65249 x65250 x65255 x65255 (decide (x65255 ≠ 0)) x62669 x62670 x62671 x62679) else ((g15 x65249 x65250).bind fun x65265 => (if x65265.2 ≠ 0 then (g11_j5 p1 x62667 x62668 x62669 x62670 x62671 x62679 rec64156 x64931 x65247 x65248 x65249 x65250 x65255 x65265 true true true true) else ((g26 x65265.1.Epoch).bind fun x65337 => (if x65337 ≠ x62668 then (g11_j5 p1 x62667 x62668 x62669 x62670 x62671 x62679 rec64156 x64931 x65247 x65248 x65249 x65250 x65255 x65265 false (decide (x65337 ≠ x62668)) true true) else (g11_j5 p1 x62667 x62668 x62669 x62670 x62671 x62679 rec64156 x64931 x65247 x65248 x65249 x65250 x65255 x65265 false (decide (x65337 ≠ x62668)) false (decide (x65265.1.Pages ≠ p0)))))))
def g11_l6B (p0 : Int) (p1 : (List (List Int))) (x62667 : Int) (x62668 : Int) (x62669 : Int) (x62670 : Int) (x62671 : (List Int)) (x62679 : (List Int)) (rec64156 : Int → Int → Int → Int → (List Int) → (List Int) → Option (T_api_Head × Int × Int)) (x64931 : (List Int)) (x65348 : (T_api_Frame × Int)) (rec65580 : Int → Option (T_api_Head × Int × Int)) (x65541 : Int) : Option (T_api_Head × Int × Int) :=
  if x65541 < (([1] : List Int).length : Int) then ((getI ([1] : List Int) x65541).bind fun x65608 => (if x65608 = x65348.1.Kind then (g11_j4 p0 p1 x62667 x62668 x62669 x62670 x62671 x62679 rec64156 x64931 x65348.1.Kind x65348.1.Page x65348.1.Epoch x65348.1.Data 0) else (rec65580 (IntKind.i64.wrap (x65541 + 1))))) else (g11_j4 p0 p1 x62667 x62668 x62669 x62670 x62671 x62679 rec64156 x64931 0 0 0 [] 42)
def g11_l6 (p0 : Int) (p1 : (List (List Int))) (x62667 : Int) (x62668 : Int) (x62669 : Int) (x62670 : Int) (x62671 : (List Int)) (x62679 : (List Int)) (rec64156 : Int → Int → Int → Int → (List Int) → (List Int) → Option (T_api_Head × Int × Int)) (x64931 : (List Int)) (x65348 : (T_api_Frame × Int)) : Nat → Int → Option (T_api_Head × Int × Int)
  | 0, _ => none
  | n + 1, x65541 => g11_l6B p0 p1 x62667 x62668 x62669 x62670 x62671 x62679 rec64156 x64931 x65348 (g11_l6 p0 p1 x62667 x62668 x62669 x62670 x62671 x62679 rec64156 x64931 x65348 n) x65541
def g11_j2 (p0 : Int) (p1 : (List (List Int))) (x62667 : Int) (x62668 : Int) (x62669 : Int) (x62670 : Int) (x62671 : (List Int)) (x62679 : (List Int)) (rec64156 : Int → Int → Int → Int → (List Int) → (List Int) → Option (T_api_Head × Int × Int)) (x64164 : Bool) (x64165 : Bool) : Option (T_api_Head × Int × Int) :=
  if x64165 = true then ((getI p1 x62668).bind fun x64931 => ((g53 x64931 x62668).bind fun x65348 => (if x65348.2 ≠ 0 then (g11_j4 p0 p1 x62667 x62668 x62669 x62670 x62671 x62679 rec64156 x64931 0 0 0 [] x65348.2) else (g11_l6 p0 p1 x62667 x62668 x62669 x62670 x62671 x62679 rec64156 x64931 x65348 FUEL 0)))) else (if x62667 < 0 then (some ((T_api_Head.mk 0 0 ([] : List Int) ([] : List Int)), 0, 60)) else (some ((T_api_Head.mk x62669 x62670 x62671 x62679), x62667, 0)))
def g11_l1B (p0 : Int) (p1 : (List (List Int))) (rec64156 : Int → Int → Int → Int → (List Int) → (List Int) → Option (T_api_Head × Int × Int)) (x62667 : Int) (x62668 : Int) (x62669 : Int) (x62670 : Int) (x62671 : (List Int)) (x62679 : (List Int)) : Option (T_api_Head × Int × Int) :=
  if x62668 < (p1.length : Int) then (g11_j2 p0 p1 x62667 x62668 x62669 x62670 x62671 x62679 rec64156 true (decide (x62668 < 2))) else (g11_j2 p0 p1 x62667 x62668 x62669 x62670 x62671 x62679 rec64156 false false)
def g11_l1 (p0 : Int) (p1 : (List (List Int))) : Nat → Int → Int → Int → Int → (List Int) → (List Int) → Option (T_api_Head × Int × Int)
  | 0, _, _, _, _, _, _ => none
  | n + 1, x62667, x62668, x62669, x62670, x62671, x62679 => g11_l1B p0 p1 (g11_l1 p0 p1 n) x62667 x62668 x62669 x62670 x62671 x62679
def g11 (p0 : Int) (p1 : (List (List Int))) : Option (T_api_Head × Int × Int) :=
  g11_l1 p0 p1 FUEL (-1) 0 0 0 ([] : List Int) ([] : List Int)

-- incipit/incipitlaw06.HeadChooses 
def g3_l2B (p0 : Int) (p1 : (List (List Int))) (rec65946 : Int → Option Bool) (x65913 : Int) : Option Bool :=
  if x65913 < (p1.length : Int) then ((getI p1 x65913).bind fun x65966 => (if (x65966.length : Int) > 3000 then (some true) else (rec65946 (IntKind.i64.wrap (x65913 + 1))))) else ((g10 p0 p1).bind fun x65981 => ((g11 p0 p1).bind fun x66001 => ((g12 x65981.1 x66001.1).bind fun x66044 => (if x66044 = true then (if x65981.2.1 = x66001.2.1 then (some (decide (x65981.2.2 = x66001.2.2))) else (some false)) else (some false)))))
def g3_l2 (p0 : Int) (p1 : (List (List Int))) : Nat → Int → Option Bool
  | 0, _ => none
  | n + 1, x65913 => g3_l2B p0 p1 (g3_l2 p0 p1 n) x65913
def g3_j1 (p0 : Int) (p1 : (List (List Int))) (x65764 : Bool) : Option Bool :=
  if x65764 = true then ((g9).bind fun x65768 => (some x65768)) else (g3_l2 p0 p1 FUEL 0)
def g3 (p0 : Int) (p1 : (List (List Int))) : Option Bool :=
  (g9).bind fun x66057 => (if ¬ (x66057 = true) then (g3_j1 p0 p1 true) else (g3_j1 p0 p1 (decide ((p1.length : Int) > 8))))

-- bytes.Clone 
def g13 (p0 : (List Int)) : Option (List Int) :=
  (appI ([] : List Int) p0 1).bind fun x66162 => (some x66162)

-- incipit/incipitlaw06.HeadGets 
def g4_l3B (p0 : Int) (p1 : (List Int)) (x71776 : (List Int)) (x74365 : Int) (x74366 : Int) (x74367 : (List Int)) (x74375 : (List Int)) (x74380 : Int) (rec74536 : Int → (List Int) → Option Bool) (x74504 : Int) (x74505 : (List Int)) : Option Bool :=
  if x74504 < (x71776.length : Int) then ((getI x74505 x74504).bind fun x74541 => ((getI x74505 x74504).bind fun x74549 => ((setI x74505 x74504 (xorI .u8 x74541 255)).bind fun y74556 => (rec74536 (IntKind.i64.wrap (x74504 + 1)) y74556)))) else ((g15 p0 p1).bind fun x74564 => ((g12 (T_api_Head.mk x74365 x74366 x74367 x74375) x74564.1).bind fun x74627 => (if x74627 = true then (some (decide (x74380 = x74564.2))) else (some false))))
def g4_l3 (p0 : Int) (p1 : (List Int)) (x71776 : (List Int)) (x74365 : Int) (x74366 : Int) (x74367 : (List Int)) (x74375 : (List Int)) (x74380 : Int) : Nat → Int → (List Int) → Option Bool
  | 0, _, _ => none
  | n + 1, x74504, x74505 => g4_l3B p0 p1 x71776 x74365 x74366 x74367 x74375 x74380 (g4_l3 p0 p1 x71776 x74365 x74366 x74367 x74375 x74380 n) x74504 x74505
def g4_j2 (p0 : Int) (p1 : (List Int)) (x71776 : (List Int)) (x74365 : Int) (x74366 : Int) (x74367 : (List Int)) (x74375 : (List Int)) (x74380 : Int) : Option Bool :=
  g4_l3 p0 p1 x71776 x74365 x74366 x74367 x74375 x74380 FUEL 0 x71776
def g4_j5 (p0 : Int) (p1 : (List Int)) (x71776 : (List Int)) (x74667 : (Int × T_pack_Reader)) (x76209 : (List Int)) (x77014 : ((List Int) × T_pack_Reader)) (x77158 : Bool) : Option Bool :=
  if x77158 = true then (g4_j2 p0 p1 x71776 0 0 ([] : List Int) [] 60) else (g4_j2 p0 p1 x71776 p0 (IntKind.i64.wrap x74667.1) x76209 x77014.1 0)
def g4_l4B (p0 : Int) (p1 : (List Int)) (x71776 : (List Int)) (x74667 : (Int × T_pack_Reader)) (x75850 : (Int × T_pack_Reader)) (rec76615 : Int → (List Int) → Int → Bool → (List Int) → Option Bool) (x76201 : Int) (x76202 : (List Int)) (x76207 : Int) (x76208 : Bool) (x76209 : (List Int)) : Option Bool :=
  if x76201 < (if 3 < x75850.1 then 3 else x75850.1) then ((g33 (T_pack_Reader.mk x76202 x76207 x76208)).bind fun x76932 => ((appI x76209 ([IntKind.i64.wrap x76932.1] : List Int) 8).bind fun x76962 => (rec76615 (IntKind.u8.wrap (x76201 + 1)) x76932.2.b x76932.2.err x76932.2.made x76962))) else ((g35 (T_pack_Reader.mk x76202 x76207 x76208) 32).bind fun x77014 => ((g36 x77014.2).bind fun x77041 => (if x77041 ≠ 0 then (g4_j2 p0 p1 x71776 0 0 ([] : List Int) [] 60) else ((g17 (T_api_Head.mk p0 (IntKind.i64.wrap x74667.1) x76209 x77014.1)).bind fun x77121 => (if x77121.2 ≠ 0 then (g4_j5 p0 p1 x71776 x74667 x76209 x77014 true) else ((g24 x77121.1 x71776).bind fun x77178 => (g4_j5 p0 p1 x71776 x74667 x76209 x77014 (decide (¬ (x77178 = true))))))))))
def g4_l4 (p0 : Int) (p1 : (List Int)) (x71776 : (List Int)) (x74667 : (Int × T_pack_Reader)) (x75850 : (Int × T_pack_Reader)) : Nat → Int → (List Int) → Int → Bool → (List Int) → Option Bool
  | 0, _, _, _, _, _ => none
  | n + 1, x76201, x76202, x76207, x76208, x76209 => g4_l4B p0 p1 x71776 x74667 x75850 (g4_l4 p0 p1 x71776 x74667 x75850 n) x76201 x76202 x76207 x76208 x76209
def g4_j1 (p0 : Int) (p1 : (List Int)) (x71765 : Bool) : Option Bool :=
  if x71765 = true then ((g9).bind fun x71769 => (some x71769)) else ((g13 p1).bind fun x71776 => ((g32 x71776).bind fun x74649 => ((g33_1 x74649).bind fun x74667 => ((g34 x74667.2).bind fun x75850 => (g4_l4 p0 p1 x71776 x74667 x75850 FUEL 0 x75850.2.b x75850.2.err x75850.2.made ([] : List Int))))))
def g4 (p0 : Int) (p1 : (List Int)) : Option Bool :=
  (g9).bind fun x77194 => (if ¬ (x77194 = true) then (g4_j1 p0 p1 true) else (g4_j1 p0 p1 (decide ((p1.length : Int) > 3000))))

-- incipit/incipitlaw06.short 
def g16_l1B (p0 : (List T_api_Head)) (rec78182 : Int → Option Bool) (x78097 : Int) : Option Bool :=
  if x78097 < (p0.length : Int) then ((getI p0 x78097).bind fun x78227 => (if (x78227.Maps.length : Int) > 100 then (some false) else (if (x78227.User.length : Int) > 3000 then (some false) else (rec78182 (IntKind.i64.wrap (x78097 + 1)))))) else (some true)
def g16_l1 (p0 : (List T_api_Head)) : Nat → Int → Option Bool
  | 0, _ => none
  | n + 1, x78097 => g16_l1B p0 (g16_l1 p0 n) x78097
def g16 (p0 : (List T_api_Head)) : Option Bool :=
  g16_l1 p0 FUEL 0

-- incipit/incipitref04.Check (('agg', ('.', '.', '.', 'ro')),)
def g62_j2 (p0 : T_api_Frame) (x78506 : Bool) : Option Int :=
  if x78506 = true then (some 41) else (if (p0.Data.length : Int) > 240 then (some 3) else (some 0))
def g62_j1 (p0 : T_api_Frame) (x78499 : Bool) : Option Int :=
  if x78499 = true then (some 42) else (if p0.Page < 0 then (g62_j2 p0 true) else (g62_j2 p0 (decide (p0.Page ≥ 2048))))
def g62 (p0 : T_api_Frame) : Option Int :=
  if p0.Kind < 1 then (g62_j1 p0 true) else (g62_j1 p0 (decide (p0.Kind > 4)))

-- incipit/incipitref04.Put (('agg', ('.', '.', '.', 'ro')),)
def g41_l2B (rec79172 : (List Int) → Option ((List Int) × Int)) (x79144 : (List Int)) : Option ((List Int) × Int) :=
  if (x79144.length : Int) < 252 then ((appI x79144 ([0] : List Int) 1).bind fun x79185 => (rec79172 x79185)) else ((g63 x79144).bind fun x79197 => (some (x79197, 0)))
def g41_l2  : Nat → (List Int) → Option ((List Int) × Int)
  | 0, _ => none
  | n + 1, x79144 => g41_l2B (g41_l2 n) x79144
def g41_l1B (p0 : T_api_Frame) (rec79018 : (List Int) → Int → Option ((List Int) × Int)) (x78986 : (List Int)) (x78994 : Int) : Option ((List Int) × Int) :=
  if x78994 < 8 then ((some (IntKind.u64.wrap (IntKind.i64.wrap (56 - (IntKind.i64.wrap (8 * x78994)))))).bind fun x79023 => (if 0 ≤ x79023 then ((appI x78986 ([IntKind.u8.wrap (shrI .u64 p0.Epoch x79023)] : List Int) 1).bind fun x79034 => (rec79018 x79034 (IntKind.i64.wrap (x78994 + 1)))) else none)) else ((appI x78986 p0.Data 1).bind fun x79045 => (g41_l2 FUEL x79045))
def g41_l1 (p0 : T_api_Frame) : Nat → (List Int) → Int → Option ((List Int) × Int)
  | 0, _, _ => none
  | n + 1, x78986, x78994 => g41_l1B p0 (g41_l1 p0 n) x78986 x78994
def g41 (p0 : T_api_Frame) : Option ((List Int) × Int) :=
  (g62 p0).bind fun x78878 => (if x78878 ≠ 0 then (some (([] : List Int), x78878)) else (g41_l1 p0 FUEL ([IntKind.u8.wrap p0.Kind, 0, IntKind.u8.wrap (IntKind.i64.wrap (Int.tdiv p0.Page 256)), IntKind.u8.wrap (Int.tmod p0.Page 256)] : List Int) 0))

-- incipit/incipitref06.Lay (('agg', ('.', '.', 'ro', 'ro')),)
def g20 (p0 : T_api_Head) : Option ((List Int) × Int) :=
  (g18 p0).bind fun x79256 => (if x79256.2 ≠ 0 then (some (([] : List Int), x79256.2)) else ((g26 p0.Epoch).bind fun x79280 => ((g41 (T_api_Frame.mk 1 x79280 p0.Epoch x79256.1)).bind fun x79291 => (some (x79291.1, x79291.2)))))

-- slices.Equal[[]int,int] 
def g44_l1B (p0 : (List Int)) (p1 : (List Int)) (rec80005 : Int → Option Bool) (x79950 : Int) : Option Bool :=
  if x79950 < (p0.length : Int) then ((getI p0 x79950).bind fun x80041 => ((getI p1 x79950).bind fun x80050 => (if x80041 ≠ x80050 then (some false) else (rec80005 (IntKind.i64.wrap (x79950 + 1)))))) else (some true)
def g44_l1 (p0 : (List Int)) (p1 : (List Int)) : Nat → Int → Option Bool
  | 0, _ => none
  | n + 1, x79950 => g44_l1B p0 p1 (g44_l1 p0 p1 n) x79950
def g44 (p0 : (List Int)) (p1 : (List Int)) : Option Bool :=
  if (p0.length : Int) ≠ (p1.length : Int) then (some false) else (g44_l1 p0 p1 FUEL 0)

-- incipit/head.Same (('agg', ('.', '.', 'ro', 'ro')), ('agg', ('.', '.', 'ro', 'ro')))
def g23_j1 (x80140 : Bool) : Option Bool :=
  some x80140
def g23 (p0 : T_api_Head) (p1 : T_api_Head) : Option Bool :=
  if p0.Epoch = p1.Epoch then (if p0.Pages = p1.Pages then ((g44 p0.Maps p1.Maps).bind fun x80147 => (if x80147 = true then ((g24 p0.User p1.User).bind fun x80155 => (g23_j1 x80155)) else (g23_j1 false))) else (g23_j1 false)) else (g23_j1 false)

-- incipit/incipitlaw06.HeadPuts (('agg', ('.', '.', 'ro', 'ro')), ('agg', ('.', '.', 'ro', 'ro')))
def g5_j2 (x80596 : Bool) : Option Bool :=
  some x80596
def g5_j1 (p0 : T_api_Head) (p1 : T_api_Head) (x80441 : Bool) : Option Bool :=
  if x80441 = true then ((g9).bind fun x80445 => (some x80445)) else ((g17 p0).bind fun x80452 => ((g18 p0).bind fun x80470 => ((g19 p0).bind fun x80488 => ((g20 p0).bind fun x80502 => ((g21 p0).bind fun x80607 => ((g22 p0).bind fun x80614 => (if x80607 = x80614 then ((g23 p0 p1).bind fun x80622 => ((g12 p0 p1).bind fun x80629 => (if x80622 = x80629 then ((g24 x80452.1 x80470.1).bind fun x80637 => (if x80637 = true then (if x80452.2 = x80470.2 then ((g24 x80488.1 x80502.1).bind fun x80650 => (if x80650 = true then (if x80488.2 = x80502.2 then ((g25 p0.Epoch).bind fun x80662 => ((g26 p0.Epoch).bind fun x80669 => (g5_j2 (decide (x80662 = x80669))))) else (g5_j2 false)) else (g5_j2 false))) else (g5_j2 false)) else (g5_j2 false))) else (g5_j2 false)))) else (g5_j2 false))))))))
def g5 (p0 : T_api_Head) (p1 : T_api_Head) : Option Bool :=
  (g9).bind fun x80678 => (if ¬ (x80678 = true) then (g5_j1 p0 p1 true) else ((g16 ([p0, p1] : List T_api_Head)).bind fun x80695 => (g5_j1 p0 p1 (decide (¬ (x80695 = true))))))

end Go.Proofs.YtclnddebhjjpfaaDoor
