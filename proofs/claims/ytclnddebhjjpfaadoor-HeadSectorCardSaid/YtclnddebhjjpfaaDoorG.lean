/- PRINTED BY sy.py: what each Go function computes, in plain Lean. -/
import Derived.Test.YtclnddebhjjpfaaDoorSXaa
namespace Go.Proofs.YtclnddebhjjpfaaDoor
open Go Go.SX Go.RowKit
set_option maxRecDepth 100000
set_option linter.unusedVariables false
def TAB1 : List Int := [128, 191, 160, 191, 128, 159, 144, 191, 128, 143, 0, 0, 0, 0, 0, 0, 0, 0, 0, 0, 0, 0, 0, 0, 0, 0, 0, 0, 0, 0, 0, 0]
def TAB2 : List Int := [0, 274646895, 549293790, 820201905, 1098587580, 1361435347, 1640403810, 1905808397, 2197175160, 2460548119, 2722870694, 2987750089, 3280807620, 3553878443, 3811616794, 4084100981]
structure T_api_Head where
  Epoch : Int
  Pages : Int
  Maps : (List Int)
  User : (List Int)
  deriving DecidableEq
structure T_api_Frame where
  Kind : Int
  Page : Int
  Epoch : Int
  Data : (List Int)
  deriving DecidableEq
structure T_pack_Reader where
  b : (List Int)
  err : Int
  made : Bool
  deriving DecidableEq
-- incipit/incipitlaw06.some 
def g29  : Option T_api_Head :=
  some (T_api_Head.mk 9 64 ([2] : List Int) ([7] : List Int))

-- incipit/head.maps 
def g64 (p0 : Int) : Option Int :=
  if p0 ≤ 1024 then (some 1) else (some 2)

-- slices.Index[[]int,int] 
def g77_l1B (p0 : (List Int)) (p1 : Int) (rec496 : Int → Option Int) (x475 : Int) : Option Int :=
  if x475 < (p0.length : Int) then ((getI p0 x475).bind fun x510 => (if p1 = x510 then (some x475) else (rec496 (IntKind.i64.wrap (x475 + 1))))) else (some (-1))
def g77_l1 (p0 : (List Int)) (p1 : Int) : Nat → Int → Option Int
  | 0, _ => none
  | n + 1, x475 => g77_l1B p0 p1 (g77_l1 p0 p1 n) x475
def g77 (p0 : (List Int)) (p1 : Int) : Option Int :=
  g77_l1 p0 p1 FUEL 0

-- slices.Contains[[]int,int] 
def g65 (p0 : (List Int)) (p1 : Int) : Option Bool :=
  (g77 p0 p1).bind fun x532 => (some (decide (x532 ≥ 0)))

-- incipit/head.holds (('agg', ('.', '.', 'ro', 'ro')), '.')
def g42_j1 (p0 : T_api_Head) (x3166 : Bool) : Option Bool :=
  if x3166 = true then (some (decide ((p0.User.length : Int) ≤ 32))) else (some false)
def g42_j4 (x3328 : Int) (rec3403 : Bool → Int → Option Bool) (x3437 : Bool) (x3438 : Int) (x3439 : Int) (x3440 : Bool) (x3441 : Bool) (x3442 : Bool) (x3443 : Bool) (x3444 : Bool) (x3445 : Bool) : Option Bool :=
  rec3403 x3437 (IntKind.i64.wrap (x3328 + 1))
def g42_l3B (p0 : T_api_Head) (rec3403 : Bool → Int → Option Bool) (x3327 : Bool) (x3328 : Int) : Option Bool :=
  if x3328 < (p0.Maps.length : Int) then ((getI p0.Maps x3328).bind fun x3450 => (if x3327 = true then (if x3450 ≥ 2 then (if x3450 < p0.Pages then ((cutI p0.Maps 0 x3328).bind fun y3461 => ((g65 y3461 x3450).bind fun x3471 => (g42_j4 x3328 rec3403 (decide (¬ (x3471 = true))) x3450 x3450 true (decide (x3450 ≥ 2)) true (decide (x3450 < p0.Pages)) true (decide (¬ (x3471 = true)))))) else (g42_j4 x3328 rec3403 false x3450 x3450 true (decide (x3450 ≥ 2)) true (decide (x3450 < p0.Pages)) false false)) else (g42_j4 x3328 rec3403 false x3450 x3450 true (decide (x3450 ≥ 2)) false false false false)) else (g42_j4 x3328 rec3403 false x3450 x3450 false false false false false false))) else (g42_j1 p0 x3327)
def g42_l3 (p0 : T_api_Head) : Nat → Bool → Int → Option Bool
  | 0, _, _ => none
  | n + 1, x3327, x3328 => g42_l3B p0 (g42_l3 p0 n) x3327 x3328
def g42_j2 (p0 : T_api_Head) (x3250 : Bool) : Option Bool :=
  g42_l3 p0 FUEL x3250 0
def g42_j5 (p0 : T_api_Head) (x3512 : Bool) : Option Bool :=
  if x3512 = true then ((g64 p0.Pages).bind fun x3520 => (g42_j2 p0 (decide ((p0.Maps.length : Int) = x3520)))) else (g42_j2 p0 false)
def g42 (p0 : T_api_Head) (p1 : Int) : Option Bool :=
  if p1 = 0 then (if p0.Pages ≥ 8 then (g42_j5 p0 (decide (p0.Pages ≤ 2048))) else (g42_j5 p0 false)) else (if p1 = 1 then (g42_j5 p0 true) else (if p1 = 2 then (g42_j2 p0 true) else (if p1 = 3 then (g42_j1 p0 true) else (some true))))

-- incipit/head.Check (('agg', ('.', '.', 'ro', 'ro')),)
def g21 (p0 : T_api_Head) : Option Int :=
  (g42 p0 0).bind fun x3593 => (if ¬ (x3593 = true) then (some 60) else (some 0))

-- incipit/pack.wide 
def g59_l1B (p0 : (List Int)) (p1 : Int) (p2 : Int) (x4059 : (List Int)) (rec4184 : Int → (List Int) → Option (List Int)) (x4159 : Int) (x4160 : (List Int)) : Option (List Int) :=
  if x4159 < p2 then (if 0 ≤ (IntKind.u64.wrap (IntKind.i64.wrap (8 * x4159))) then ((some (shrI .u64 p1 (IntKind.u64.wrap (IntKind.i64.wrap (8 * x4159))))).bind fun x4190 => (if (0 : Int) ≤ IntKind.i64.wrap ((IntKind.i64.wrap (p2 - 1)) - x4159) ∧ IntKind.i64.wrap ((IntKind.i64.wrap (p2 - 1)) - x4159) < (x4059.length : Int) - (p0.length : Int) then ((getI x4160 ((p0.length : Int) + (IntKind.i64.wrap ((IntKind.i64.wrap (p2 - 1)) - x4159)))).bind fun x4192 => ((setI x4160 ((p0.length : Int) + (IntKind.i64.wrap ((IntKind.i64.wrap (p2 - 1)) - x4159))) (IntKind.u8.wrap x4190)).bind fun y4197 => (rec4184 (IntKind.i64.wrap (x4159 + 1)) y4197))) else none)) else none) else (some x4160)
def g59_l1 (p0 : (List Int)) (p1 : Int) (p2 : Int) (x4059 : (List Int)) : Nat → Int → (List Int) → Option (List Int)
  | 0, _, _ => none
  | n + 1, x4159, x4160 => g59_l1B p0 p1 p2 x4059 (g59_l1 p0 p1 p2 x4059 n) x4159 x4160
def g59 (p0 : (List Int)) (p1 : Int) (p2 : Int) : Option (List Int) :=
  (repI (IntKind.i64.wrap ((p0.length : Int) + p2)) 0 1).bind fun x4042 => ((some (copyI x4042 0 (x4042.length : Int) p0)).bind fun x4059 => (if (0 : Int) ≤ (p0.length : Int) ∧ (p0.length : Int) ≤ (x4059.length : Int) ∧ (x4059.length : Int) ≤ (x4059.length : Int) then (g59_l1 p0 p1 p2 x4059 FUEL 0 x4059) else none))

-- incipit/pack.U16 
def g37 (p0 : (List Int)) (p1 : Int) : Option (List Int) :=
  (g59 p0 (IntKind.u64.wrap p1) 2).bind fun x4232 => (some x4232)

-- incipit/pack.Text 
def g38 (p0 : (List Int)) (p1 : (List Int)) : Option ((List Int) × Int) :=
  if (p1.length : Int) > 255 then (some (([] : List Int), 3)) else ((some (IntKind.i64.wrap ((p0.length : Int) + (IntKind.i64.wrap (1 + (p1.length : Int)))))).bind fun x4671 => ((repI x4671 0 1).bind fun x4673 => ((some (copyI x4673 0 (x4673.length : Int) p0)).bind fun x4690 => (if (0 : Int) ≤ (p0.length : Int) ∧ (p0.length : Int) ≤ (x4690.length : Int) ∧ (x4690.length : Int) ≤ (x4690.length : Int) then (if (0 : Int) ≤ 0 ∧ 0 < (x4690.length : Int) - (p0.length : Int) then ((getI x4690 ((p0.length : Int) + 0)).bind fun x4708 => ((setI x4690 ((p0.length : Int) + 0) (IntKind.u8.wrap (p1.length : Int))).bind fun y4713 => (if (0 : Int) ≤ 1 ∧ 1 ≤ (x4690.length : Int) - (p0.length : Int) ∧ (x4690.length : Int) - (p0.length : Int) ≤ (x4690.length : Int) - (p0.length : Int) then ((some (copyI y4713 ((p0.length : Int) + 1) ((p0.length : Int) + ((x4690.length : Int) - (p0.length : Int))) p1)).bind fun x4739 => (some (x4739, 0))) else none))) else none) else none))))

-- incipit/head.Put (('agg', ('.', '.', 'ro', 'ro')),)
def g17_l1B (p0 : T_api_Head) (rec5024 : (List Int) → Int → Option ((List Int) × Int)) (x4982 : (List Int)) (x4990 : Int) : Option ((List Int) × Int) :=
  if x4990 < (p0.Maps.length : Int) then ((getI p0.Maps x4990).bind fun x5029 => ((g37 x4982 (IntKind.u16.wrap x5029)).bind fun x5041 => (rec5024 x5041 (IntKind.i64.wrap (x4990 + 1))))) else ((g38 x4982 p0.User).bind fun x5062 => (if x5062.2 ≠ 0 then (some (([] : List Int), x5062.2)) else ((appZI x5062.1 (IntKind.i64.wrap (240 - (x5062.1.length : Int))) 0 1).bind fun x5083 => (some (x5083, 0)))))
def g17_l1 (p0 : T_api_Head) : Nat → (List Int) → Int → Option ((List Int) × Int)
  | 0, _, _ => none
  | n + 1, x4982, x4990 => g17_l1B p0 (g17_l1 p0 n) x4982 x4990
def g17 (p0 : T_api_Head) : Option ((List Int) × Int) :=
  (g21 p0).bind fun x4801 => (if x4801 ≠ 0 then (some (([] : List Int), x4801)) else ((g37 [] (IntKind.u16.wrap p0.Pages)).bind fun x4810 => ((appI x4810 ([IntKind.u8.wrap (p0.Maps.length : Int)] : List Int) 1).bind fun x4832 => (g17_l1 p0 FUEL x4832 0))))

-- incipit/head.Page 
def g25 (p0 : Int) : Option Int :=
  some (IntKind.i64.wrap (andI .u64 p0 1))

-- incipit/frame.right 
def g72 (p0 : Int) : Option Bool :=
  if p0 ≥ 1 then (some (decide (p0 ≤ 4))) else (some false)

-- incipit/frame.Check (('agg', ('.', '.', '.', 'ro')),)
def g60_j1 (p0 : T_api_Frame) (x5281 : Bool) : Option Int :=
  if x5281 = true then (some 41) else (if (p0.Data.length : Int) > 240 then (some 3) else (some 0))
def g60 (p0 : T_api_Frame) : Option Int :=
  (g72 p0.Kind).bind fun x5271 => (if ¬ (x5271 = true) then (some 42) else (if p0.Page < 0 then (g60_j1 p0 true) else (g60_j1 p0 (decide (p0.Page ≥ 2048)))))

-- incipit/pack.U64 
def g73 (p0 : (List Int)) (p1 : Int) : Option (List Int) :=
  (g59 p0 p1 8).bind fun x5379 => (some x5379)

-- incipit/crc.of 
def g88 (p0 : Int) : Option Int :=
  some (xorI .u32 p0 4294967295)

-- (incipit/crc.register).nibble 
def g91 (p0 : Int) : Option Int :=
  (getI TAB2 (andI .u32 p0 15)).bind fun x5683 => (some (xorI .u32 (shrI .u32 p0 4) x5683))

-- (incipit/crc.register).by 
def g89_l1B (p1 : (List Int)) (rec5985 : Int → Int → Option Int) (x5957 : Int) (x5958 : Int) : Option Int :=
  if x5958 < (p1.length : Int) then ((getI p1 x5958).bind fun x5990 => ((g91 (xorI .u32 x5957 (IntKind.u32.wrap x5990))).bind fun x5998 => ((g91 x5998).bind fun x6005 => (rec5985 x6005 (IntKind.i64.wrap (x5958 + 1)))))) else (some x5957)
def g89_l1 (p1 : (List Int)) : Nat → Int → Int → Option Int
  | 0, _, _ => none
  | n + 1, x5957, x5958 => g89_l1B p1 (g89_l1 p1 n) x5957 x5958
def g89 (p0 : Int) (p1 : (List Int)) : Option Int :=
  g89_l1 p1 FUEL p0 0

-- (incipit/crc.register).sum 
def g90 (p0 : Int) : Option Int :=
  some (xorI .u32 p0 4294967295)

-- incipit/pack.U32 
def g74 (p0 : (List Int)) (p1 : Int) : Option (List Int) :=
  (g59 p0 (IntKind.u64.wrap p1) 4).bind fun x6434 => (some x6434)

-- incipit/frame.lay (('agg', ('.', '.', '.', 'ro')),)
def g61 (p0 : T_api_Frame) : Option (List Int) :=
  (getI (List.replicate 256 (0 : Int)) 4).bind fun x6506 => ((setI (List.replicate 256 (0 : Int)) 4 (IntKind.u8.wrap p0.Kind)).bind fun y6511 => ((g37 [] (IntKind.u16.wrap p0.Page)).bind fun x6525 => ((g73 x6525 p0.Epoch).bind fun x6543 => ((some (copyI y6511 6 16 x6543)).bind fun x6578 => (if (0 : Int) ≤ 16 ∧ 16 ≤ (x6578.length : Int) ∧ (x6578.length : Int) ≤ (x6578.length : Int) then ((some (copyI x6578 16 (x6578.length : Int) p0.Data)).bind fun x6604 => (if (0 : Int) ≤ 4 ∧ 4 ≤ (x6604.length : Int) ∧ (x6604.length : Int) ≤ (x6604.length : Int) then ((g88 0).bind fun x6998 => ((cutI x6604 4 (x6604.length : Int)).bind fun y7026 => ((g89 x6998 y7026).bind fun x7029 => ((g90 x7029).bind fun x7039 => ((g74 [] x7039).bind fun x7046 => ((some (copyI x6604 0 4 x7046)).bind fun x7068 => (some x7068))))))) else none)) else none)))))

-- incipit/frame.Put (('agg', ('.', '.', '.', 'ro')),)
def g40 (p0 : T_api_Frame) : Option ((List Int) × Int) :=
  (g60 p0).bind fun x7114 => (if x7114 ≠ 0 then (some (([] : List Int), x7114)) else ((g61 p0).bind fun x7123 => (some (x7123, 0))))

-- incipit/head.Lay (('agg', ('.', '.', 'ro', 'ro')),)
def g19 (p0 : T_api_Head) : Option ((List Int) × Int) :=
  (g17 p0).bind fun x7183 => (if x7183.2 ≠ 0 then (some (([] : List Int), x7183.2)) else ((g25 p0.Epoch).bind fun x7207 => ((g40 (T_api_Frame.mk 1 x7207 p0.Epoch x7183.1)).bind fun x7218 => (some (x7218.1, x7218.2)))))

-- incipit/incipitlaw06.lay (('agg', ('.', '.', 'ro', 'ro')),)
def g27 (p0 : T_api_Head) : Option (List Int) :=
  (g19 p0).bind fun x7271 => (some x7271.1)

-- incipit/pack.Read 
def g32 (p0 : (List Int)) : Option T_pack_Reader :=
  (repI (IntKind.i64.wrap ((p0.length : Int) + 0)) 0 1).bind fun x7530 => ((some (copyI x7530 0 (x7530.length : Int) p0)).bind fun x7547 => (if (0 : Int) ≤ (p0.length : Int) ∧ (p0.length : Int) ≤ (x7547.length : Int) ∧ (x7547.length : Int) ≤ (x7547.length : Int) then (some (T_pack_Reader.mk x7547 0 true)) else none))

-- (*incipit/pack.Reader).none (('obj', 85, ('own', '.', '.')),)
def g56 (p0 : T_pack_Reader) : Option Bool :=
  if ¬ (p0.made = true) then (some true) else (some (decide (p0.err ≠ 0)))

-- (*incipit/pack.Reader).fails (('obj', 85, ('own', '.', '.')), '.')
def g57 (p0 : T_pack_Reader) (p1 : Int) : Option T_pack_Reader :=
  some (T_pack_Reader.mk p0.b p1 p0.made)

-- (*incipit/pack.Reader).next (('obj', 85, ('own', '.', '.')), '.')
def g58 (p0 : T_pack_Reader) (p1 : Int) : Option ((List Int) × T_pack_Reader) :=
  (g56 p0).bind fun x7762 => (if x7762 = true then (some ([], p0)) else (if p1 > (p0.b.length : Int) then ((g57 p0 10).bind fun x7794 => (some ([], x7794))) else (if p1 ≤ p1 ∧ p1 ≤ (p0.b.length : Int) then ((cutI p0.b 0 p1).bind fun y7816 => ((cutI p0.b p1 (p0.b.length : Int)).bind fun y7827 => (some (y7816, (T_pack_Reader.mk y7827 p0.err p0.made))))) else none)))

-- (*incipit/pack.Reader).number (('obj', 85, ('own', '.', '.')), '.')
def g55_l1B (x8017 : ((List Int) × T_pack_Reader)) (rec8056 : Int → Int → Option (Int × T_pack_Reader)) (x8044 : Int) (x8045 : Int) : Option (Int × T_pack_Reader) :=
  if x8045 < (x8017.1.length : Int) then ((getI x8017.1 x8045).bind fun x8061 => (rec8056 (orI .u64 (shlI .u64 x8044 8) (IntKind.u64.wrap x8061)) (IntKind.i64.wrap (x8045 + 1)))) else (some (x8044, x8017.2))
def g55_l1 (x8017 : ((List Int) × T_pack_Reader)) : Nat → Int → Int → Option (Int × T_pack_Reader)
  | 0, _, _ => none
  | n + 1, x8044, x8045 => g55_l1B x8017 (g55_l1 x8017 n) x8044 x8045
def g55 (p0 : T_pack_Reader) (p1 : Int) : Option (Int × T_pack_Reader) :=
  (g58 p0 p1).bind fun x8017 => (g55_l1 x8017 FUEL 0 0)

-- (*incipit/pack.Reader).U32 (('obj', 85, ('own', '.', '.')),)
def g83 (p0 : T_pack_Reader) : Option (Int × T_pack_Reader) :=
  (g55 p0 4).bind fun x8094 => (some (IntKind.u32.wrap x8094.1, x8094.2))

-- (*incipit/pack.Reader).none (('obj', 85, ('ro', '.', '.')),)
def g56_1 (p0 : T_pack_Reader) : Option Bool :=
  if ¬ (p0.made = true) then (some true) else (some (decide (p0.err ≠ 0)))

-- (*incipit/pack.Reader).fails (('obj', 85, ('ro', '.', '.')), '.')
def g57_1 (p0 : T_pack_Reader) (p1 : Int) : Option T_pack_Reader :=
  some (T_pack_Reader.mk p0.b p1 p0.made)

-- (*incipit/pack.Reader).next (('obj', 85, ('ro', '.', '.')), '.')
def g58_1 (p0 : T_pack_Reader) (p1 : Int) : Option ((List Int) × T_pack_Reader) :=
  (g56_1 p0).bind fun x8243 => (if x8243 = true then (some ([], p0)) else (if p1 > (p0.b.length : Int) then ((g57_1 p0 10).bind fun x8264 => (some ([], x8264))) else (if p1 ≤ p1 ∧ p1 ≤ (p0.b.length : Int) then ((cutI p0.b 0 p1).bind fun y8275 => ((cutI p0.b p1 (p0.b.length : Int)).bind fun y8286 => (some (y8275, (T_pack_Reader.mk y8286 p0.err p0.made))))) else none)))

-- (*incipit/pack.Reader).number (('obj', 85, ('ro', '.', '.')), '.')
def g55_1_l1B (x8473 : ((List Int) × T_pack_Reader)) (rec8512 : Int → Int → Option (Int × T_pack_Reader)) (x8500 : Int) (x8501 : Int) : Option (Int × T_pack_Reader) :=
  if x8501 < (x8473.1.length : Int) then ((getI x8473.1 x8501).bind fun x8517 => (rec8512 (orI .u64 (shlI .u64 x8500 8) (IntKind.u64.wrap x8517)) (IntKind.i64.wrap (x8501 + 1)))) else (some (x8500, x8473.2))
def g55_1_l1 (x8473 : ((List Int) × T_pack_Reader)) : Nat → Int → Int → Option (Int × T_pack_Reader)
  | 0, _, _ => none
  | n + 1, x8500, x8501 => g55_1_l1B x8473 (g55_1_l1 x8473 n) x8500 x8501
def g55_1 (p0 : T_pack_Reader) (p1 : Int) : Option (Int × T_pack_Reader) :=
  (g58_1 p0 p1).bind fun x8473 => (g55_1_l1 x8473 FUEL 0 0)

-- (*incipit/pack.Reader).U8 (('obj', 85, ('ro', '.', '.')),)
def g34 (p0 : T_pack_Reader) : Option (Int × T_pack_Reader) :=
  (g55_1 p0 1).bind fun x8547 => (some (IntKind.u8.wrap x8547.1, x8547.2))

-- (*incipit/pack.Reader).U16 (('obj', 85, ('ro', '.', '.')),)
def g33 (p0 : T_pack_Reader) : Option (Int × T_pack_Reader) :=
  (g55_1 p0 2).bind fun x8610 => (some (IntKind.u16.wrap x8610.1, x8610.2))

-- (*incipit/pack.Reader).U64 (('obj', 85, ('ro', '.', '.')),)
def g84 (p0 : T_pack_Reader) : Option (Int × T_pack_Reader) :=
  (g55_1 p0 8).bind fun x8657 => (some (x8657.1, x8657.2))

-- (*incipit/pack.Reader).Raw (('obj', 85, ('ro', '.', '.')), '.')
def g85 (p0 : T_pack_Reader) (p1 : Int) : Option ((List Int) × T_pack_Reader) :=
  (g56_1 p0).bind fun x8760 => (if x8760 = true then (some ([], p0)) else (if p1 < 0 then ((g57_1 p0 1).bind fun x8781 => (some ([], x8781))) else ((g58_1 p0 p1).bind fun x8792 => (some (x8792.1, x8792.2)))))

-- incipit/frame.take 
def g80 (p0 : (List Int)) : Option (T_api_Frame × Int) :=
  (g32 p0).bind fun x8849 => ((g83 x8849).bind fun x8867 => ((g34 x8867.2).bind fun x8878 => ((g34 x8878.2).bind fun x8894 => ((g33 x8894.2).bind fun x8905 => ((g84 x8905.2).bind fun x8916 => ((g85 x8916.2 240).bind fun x8931 => (some ((T_api_Frame.mk (IntKind.i64.wrap x8878.1) (IntKind.i64.wrap x8905.1) x8916.1 x8931.1), x8867.1))))))))

-- incipit/frame.Get 
def g70_j2 (p1 : Int) (x10871 : (T_api_Frame × Int)) (x12237 : Bool) : Option (T_api_Frame × Int) :=
  if x12237 = true then (some ((T_api_Frame.mk 0 0 0 []), 42)) else (if x10871.1.Page ≠ p1 then (some ((T_api_Frame.mk 0 0 0 []), 41)) else (if x10871.1.Page ≥ 2048 then (some ((T_api_Frame.mk 0 0 0 []), 41)) else (some (x10871.1, 0))))
def g70_j1 (p0 : (List Int)) (p1 : Int) (x10871 : (T_api_Frame × Int)) (x12216 : Bool) : Option (T_api_Frame × Int) :=
  if x12216 = true then (some ((T_api_Frame.mk 0 0 0 []), 40)) else ((g72 x10871.1.Kind).bind fun x12254 => (if ¬ (x12254 = true) then (g70_j2 p1 x10871 true) else ((getI (List.take 256 p0) 5).bind fun x12262 => (g70_j2 p1 x10871 (decide (x12262 ≠ 0))))))
def g70 (p0 : (List Int)) (p1 : Int) : Option (T_api_Frame × Int) :=
  if (p0.length : Int) ≠ 256 then (some ((T_api_Frame.mk 0 0 0 []), 1)) else (if 256 ≤ p0.length then ((g80 (List.take 256 p0)).bind fun x10871 => (if (List.take 256 p0) = (List.replicate 256 (0 : Int)) then (g70_j1 p0 p1 x10871 true) else (if (0 : Int) ≤ 4 ∧ 4 ≤ ((List.take 256 p0).length : Int) ∧ ((List.take 256 p0).length : Int) ≤ ((List.take 256 p0).length : Int) then ((g88 0).bind fun x12647 => ((cutI (List.take 256 p0) 4 ((List.take 256 p0).length : Int)).bind fun y12675 => ((g89 x12647 y12675).bind fun x12678 => ((g90 x12678).bind fun x12688 => (g70_j1 p0 p1 x10871 (decide (x10871.2 ≠ x12688))))))) else none))) else none)

-- incipit/frame.Want 
def g52_j1 (x12772 : (T_api_Frame × Int)) (x12816 : Bool) : Option (T_api_Frame × Int) :=
  if x12816 = true then (some ((T_api_Frame.mk 0 0 0 []), 42)) else (some (x12772.1, x12772.2))
def g52 (p0 : (List Int)) (p1 : Int) (p2 : (List Int)) : Option (T_api_Frame × Int) :=
  (g70 p0 p1).bind fun x12772 => (if x12772.2 = 0 then ((g65 p2 x12772.1.Kind).bind fun x12827 => (g52_j1 x12772 (decide (¬ (x12827 = true))))) else (g52_j1 x12772 false))

-- (*incipit/pack.Reader).U16 (('obj', 85, ('own', '.', '.')),)
def g33_1 (p0 : T_pack_Reader) : Option (Int × T_pack_Reader) :=
  (g55 p0 2).bind fun x13046 => (some (IntKind.u16.wrap x13046.1, x13046.2))

-- (*incipit/pack.Reader).Text (('obj', 85, ('ro', '.', '.')), '.')
def g35_j1 (p0 : T_pack_Reader) (x15595 : Int) : Option ((List Int) × T_pack_Reader) :=
  if x15595 ≠ 0 then ((g57_1 p0 x15595).bind fun x15611 => (some ([], x15611))) else ((getI p0.b 0).bind fun x15622 => ((g58_1 p0 (IntKind.i64.wrap (1 + (IntKind.i64.wrap x15622)))).bind fun x15630 => ((cutI x15630.1 1 (x15630.1.length : Int)).bind fun y15645 => (some (y15645, x15630.2)))))
def g35 (p0 : T_pack_Reader) (p1 : Int) : Option ((List Int) × T_pack_Reader) :=
  (g56_1 p0).bind fun x15559 => (if x15559 = true then (some ([], p0)) else (if p1 < 0 then (g35_j1 p0 1) else (if (p0.b.length : Int) = 0 then (g35_j1 p0 10) else ((getI p0.b 0).bind fun x15659 => (if (IntKind.i64.wrap x15659) > p1 then (g35_j1 p0 3) else ((getI p0.b 0).bind fun x15674 => (if (IntKind.i64.wrap x15674) ≥ (p0.b.length : Int) then (g35_j1 p0 10) else (g35_j1 p0 0))))))))

-- (*incipit/pack.Reader).Err (('obj', 85, ('ro', '.', '.')),)
def g36 (p0 : T_pack_Reader) : Option Int :=
  if ¬ (p0.made = true) then (some 2) else (some p0.err)

-- bytes.Equal 
def g24 (p0 : (List Int)) (p1 : (List Int)) : Option Bool :=
  some (decide ((strOfNums p0).toList = (strOfNums p1).toList))

-- incipit/head.Get 
def g14_l1B (p0 : Int) (p1 : (List Int)) (x15896 : (Int × T_pack_Reader)) (x17079 : (Int × T_pack_Reader)) (rec17844 : Int → (List Int) → Int → Bool → (List Int) → Option (T_api_Head × Int)) (x17430 : Int) (x17431 : (List Int)) (x17436 : Int) (x17437 : Bool) (x17438 : (List Int)) : Option (T_api_Head × Int) :=
  if x17430 < (if 3 < x17079.1 then 3 else x17079.1) then ((g33 (T_pack_Reader.mk x17431 x17436 x17437)).bind fun x18161 => ((appI x17438 ([IntKind.i64.wrap x18161.1] : List Int) 8).bind fun x18191 => (rec17844 (IntKind.u8.wrap (x17430 + 1)) x18161.2.b x18161.2.err x18161.2.made x18191))) else ((g35 (T_pack_Reader.mk x17431 x17436 x17437) 32).bind fun x18243 => ((g36 x18243.2).bind fun x18271 => (if x18271 ≠ 0 then (some ((T_api_Head.mk 0 0 ([] : List Int) []), 60)) else ((g17 (T_api_Head.mk p0 (IntKind.i64.wrap x15896.1) x17438 x18243.1)).bind fun x18343 => (if x18343.2 ≠ 0 then (some ((T_api_Head.mk 0 0 ([] : List Int) []), 60)) else ((g24 x18343.1 p1).bind fun x18382 => (if ¬ (x18382 = true) then (some ((T_api_Head.mk 0 0 ([] : List Int) []), 60)) else (some ((T_api_Head.mk p0 (IntKind.i64.wrap x15896.1) x17438 x18243.1), 0)))))))))
def g14_l1 (p0 : Int) (p1 : (List Int)) (x15896 : (Int × T_pack_Reader)) (x17079 : (Int × T_pack_Reader)) : Nat → Int → (List Int) → Int → Bool → (List Int) → Option (T_api_Head × Int)
  | 0, _, _, _, _, _ => none
  | n + 1, x17430, x17431, x17436, x17437, x17438 => g14_l1B p0 p1 x15896 x17079 (g14_l1 p0 p1 x15896 x17079 n) x17430 x17431 x17436 x17437 x17438
def g14 (p0 : Int) (p1 : (List Int)) : Option (T_api_Head × Int) :=
  (g32 p1).bind fun x15881 => ((g33_1 x15881).bind fun x15896 => ((g34 x15896.2).bind fun x17079 => (g14_l1 p0 p1 x15896 x17079 FUEL 0 x17079.2.b x17079.2.err x17079.2.made ([] : List Int))))

-- incipit/head.read 
def g30_j2 (p0 : Int) (x18694 : Int) (x18695 : (List Int)) (x18740 : Bool) : Option (T_api_Head × Bool) :=
  if x18740 = true then (some ((T_api_Head.mk 0 0 ([] : List Int) []), false)) else ((g14 x18694 x18695).bind fun x18747 => (if x18747.2 = 0 then (some (x18747.1, decide (x18747.1.Pages = p0))) else (some (x18747.1, false))))
def g30_j1 (p0 : Int) (p1 : Int) (x18692 : Int) (x18693 : Int) (x18694 : Int) (x18695 : (List Int)) (x18700 : Int) : Option (T_api_Head × Bool) :=
  if x18700 ≠ 0 then (g30_j2 p0 x18694 x18695 true) else ((g25 x18694).bind fun x18813 => (g30_j2 p0 x18694 x18695 (decide (x18813 ≠ p1))))
def g30_j3 (p0 : Int) (p1 : Int) (x18823 : (T_api_Frame × Int)) : Option (T_api_Head × Bool) :=
  g30_j1 p0 p1 x18823.1.Kind x18823.1.Page x18823.1.Epoch x18823.1.Data x18823.2
def g30 (p0 : Int) (p1 : Int) (p2 : (List Int)) : Option (T_api_Head × Bool) :=
  (g70 p2 p1).bind fun x18823 => (if x18823.2 = 0 then ((g65 ([1] : List Int) x18823.1.Kind).bind fun x18896 => (if ¬ (x18896 = true) then (g30_j1 p0 p1 0 0 0 [] 42) else (g30_j3 p0 p1 x18823))) else (g30_j3 p0 p1 x18823))

-- incipit/head.Choose 
def g10_j2 (x21794 : Int) (rec22011 : Int → Int → Int → Int → (List Int) → (List Int) → Option (T_api_Head × Int × Int)) (x22073 : Int) (x22074 : (List Int)) (x22079 : Bool) (x22080 : (List Int)) (x22085 : Int) (x22086 : Int) (x22087 : (List Int)) (x22092 : (List Int)) (x22097 : Bool) (x22098 : (List Int)) (x22103 : Int) (x22104 : Int) (x22105 : (List Int)) (x22110 : (List Int)) (x22115 : Bool) (x22116 : Int) (x22117 : Int) (x22118 : (List Int)) (x22123 : (List Int)) (x22128 : Bool) (x22129 : Bool) (x22130 : Bool) (x22131 : Bool) (x22132 : Bool) (x22133 : Int) (x22134 : Int) (x22135 : (List Int)) (x22140 : (List Int)) (x22145 : Int) (x22146 : Int) (x22147 : (List Int)) (x22152 : (List Int)) : Option (T_api_Head × Int × Int) :=
  rec22011 x22073 (IntKind.i64.wrap (x21794 + 1)) x22145 x22146 x22147 x22152
def g10_l1B (p0 : Int) (y21466 : (List (List Int))) (rec22011 : Int → Int → Int → Int → (List Int) → (List Int) → Option (T_api_Head × Int × Int)) (x21793 : Int) (x21794 : Int) (x21795 : Int) (x21796 : Int) (x21797 : (List Int)) (x21802 : (List Int)) : Option (T_api_Head × Int × Int) :=
  if x21794 < (y21466.length : Int) then ((getI y21466 x21794).bind fun x22161 => ((g30 p0 x21794 x22161).bind fun x22175 => (if ¬ (x22175.2 = true) then (g10_j2 x21794 rec22011 x21793 x22161 x22175.2 x22161 x22175.1.Epoch x22175.1.Pages x22175.1.Maps x22175.1.User x22175.2 x22161 x22175.1.Epoch x22175.1.Pages x22175.1.Maps x22175.1.User x22175.2 x22175.1.Epoch x22175.1.Pages x22175.1.Maps x22175.1.User x22175.2 x22175.2 (decide (¬ (x22175.2 = true))) true true x22175.1.Epoch x22175.1.Pages x22175.1.Maps x22175.1.User x21795 x21796 x21797 x21802) else (if x21793 ≥ 0 then (if x22175.1.Epoch ≤ x21795 then (g10_j2 x21794 rec22011 x21793 x22161 x22175.2 x22161 x22175.1.Epoch x22175.1.Pages x22175.1.Maps x22175.1.User x22175.2 x22161 x22175.1.Epoch x22175.1.Pages x22175.1.Maps x22175.1.User x22175.2 x22175.1.Epoch x22175.1.Pages x22175.1.Maps x22175.1.User x22175.2 x22175.2 (decide (¬ (x22175.2 = true))) false (decide (x22175.1.Epoch ≤ x21795)) x22175.1.Epoch x22175.1.Pages x22175.1.Maps x22175.1.User x21795 x21796 x21797 x21802) else (g10_j2 x21794 rec22011 x21794 x22161 x22175.2 x22161 x22175.1.Epoch x22175.1.Pages x22175.1.Maps x22175.1.User x22175.2 x22161 x22175.1.Epoch x22175.1.Pages x22175.1.Maps x22175.1.User x22175.2 x22175.1.Epoch x22175.1.Pages x22175.1.Maps x22175.1.User x22175.2 x22175.2 (decide (¬ (x22175.2 = true))) false (decide (x22175.1.Epoch ≤ x21795)) x22175.1.Epoch x22175.1.Pages x22175.1.Maps x22175.1.User x22175.1.Epoch x22175.1.Pages x22175.1.Maps x22175.1.User)) else (g10_j2 x21794 rec22011 x21794 x22161 x22175.2 x22161 x22175.1.Epoch x22175.1.Pages x22175.1.Maps x22175.1.User x22175.2 x22161 x22175.1.Epoch x22175.1.Pages x22175.1.Maps x22175.1.User x22175.2 x22175.1.Epoch x22175.1.Pages x22175.1.Maps x22175.1.User x22175.2 x22175.2 (decide (¬ (x22175.2 = true))) false false x22175.1.Epoch x22175.1.Pages x22175.1.Maps x22175.1.User x22175.1.Epoch x22175.1.Pages x22175.1.Maps x22175.1.User))))) else (if x21793 < 0 then (some ((T_api_Head.mk 0 0 [] []), 0, 60)) else (some ((T_api_Head.mk x21795 x21796 x21797 x21802), x21793, 0)))
def g10_l1 (p0 : Int) (y21466 : (List (List Int))) : Nat → Int → Int → Int → Int → (List Int) → (List Int) → Option (T_api_Head × Int × Int)
  | 0, _, _, _, _, _, _ => none
  | n + 1, x21793, x21794, x21795, x21796, x21797, x21802 => g10_l1B p0 y21466 (g10_l1 p0 y21466 n) x21793 x21794 x21795 x21796 x21797 x21802
def g10 (p0 : Int) (p1 : (List (List Int))) : Option (T_api_Head × Int × Int) :=
  (cutI p1 0 (if 2 < (p1.length : Int) then 2 else (p1.length : Int))).bind fun y21466 => (g10_l1 p0 y21466 FUEL (-1) 0 0 0 [] [])

-- incipit/incipitref06.Same (('agg', ('.', '.', 'ro', 'ro')), ('agg', ('.', '.', 'ro', 'ro')))
def g12_l2B (p0 : T_api_Head) (p1 : T_api_Head) (rec24520 : Int → Option Bool) (x24465 : Int) : Option Bool :=
  if x24465 < (p0.Maps.length : Int) then ((getI p0.Maps x24465).bind fun x24556 => ((getI p1.Maps x24465).bind fun x24565 => (if x24556 ≠ x24565 then (some false) else (rec24520 (IntKind.i64.wrap (x24465 + 1)))))) else (some true)
def g12_l2 (p0 : T_api_Head) (p1 : T_api_Head) : Nat → Int → Option Bool
  | 0, _ => none
  | n + 1, x24465 => g12_l2B p0 p1 (g12_l2 p0 p1 n) x24465
def g12_j1 (p0 : T_api_Head) (p1 : T_api_Head) (x24243 : Bool) : Option Bool :=
  if x24243 = true then (some false) else (g12_l2 p0 p1 FUEL 0)
def g12 (p0 : T_api_Head) (p1 : T_api_Head) : Option Bool :=
  if p0.Epoch ≠ p1.Epoch then (g12_j1 p0 p1 true) else (if p0.Pages ≠ p1.Pages then (g12_j1 p0 p1 true) else (if (p0.Maps.length : Int) ≠ (p1.Maps.length : Int) then (g12_j1 p0 p1 true) else (g12_j1 p0 p1 (decide ((strOfNums p0.User).toList ≠ (strOfNums p1.User).toList)))))

-- incipit/incipitlaw06.live 
def g9_j2 (x27940 : Bool) : Option Bool :=
  some x27940
def g9_j1 (x26243 : ((List Int) × Int)) (x27843 : Int) (x27844 : Int) (x27845 : (List Int)) (x27850 : (List Int)) (x27855 : Int) (x27856 : Int) : Option Bool :=
  if x26243.2 = 0 then (if x27856 = 0 then (if x27855 = 1 then ((g29).bind fun x27954 => ((g12 (T_api_Head.mk x27843 x27844 x27845 x27850) x27954).bind fun x27983 => (if x27983 = true then (if (x26243.1.length : Int) = 240 then ((cutI x26243.1 0 8).bind fun y27992 => ((g24 y27992 ([0, 64, 1, 0, 2, 1, 7, 0] : List Int)).bind fun x28011 => (g9_j2 x28011))) else (g9_j2 false)) else (g9_j2 false)))) else (g9_j2 false)) else (g9_j2 false)) else (g9_j2 false)
def g9_j4 (x29100 : Int) (rec29318 : Int → Int → Int → Int → (List Int) → (List Int) → Option Bool) (x29380 : Int) (x29381 : (List Int)) (x29386 : Bool) (x29388 : (List Int)) (x29393 : Int) (x29394 : Int) (x29395 : (List Int)) (x29400 : (List Int)) (x29405 : Bool) (x29406 : (List Int)) (x29411 : Int) (x29412 : Int) (x29413 : (List Int)) (x29418 : (List Int)) (x29423 : Bool) (x29424 : Int) (x29425 : Int) (x29426 : (List Int)) (x29431 : (List Int)) (x29436 : Bool) (x29437 : Bool) (x29438 : Bool) (x29439 : Bool) (x29440 : Bool) (x29441 : Int) (x29442 : Int) (x29443 : (List Int)) (x29448 : (List Int)) (x29453 : Int) (x29454 : Int) (x29455 : (List Int)) (x29460 : (List Int)) : Option Bool :=
  rec29318 x29380 (IntKind.i64.wrap (x29100 + 1)) x29453 x29454 x29455 x29460
def g9_l3B (x26243 : ((List Int) × Int)) (x26290 : (List Int)) (rec29318 : Int → Int → Int → Int → (List Int) → (List Int) → Option Bool) (x29099 : Int) (x29100 : Int) (x29101 : Int) (x29102 : Int) (x29103 : (List Int)) (x29108 : (List Int)) : Option Bool :=
  if x29100 < ((List.take ((if 2 < (([[], x26290] : List (List Int)).length : Int) then 2 else (([[], x26290] : List (List Int)).length : Int)).toNat) ([[], x26290] : List (List Int))).length : Int) then ((getI (List.take ((if 2 < (([[], x26290] : List (List Int)).length : Int) then 2 else (([[], x26290] : List (List Int)).length : Int)).toNat) ([[], x26290] : List (List Int))) x29100).bind fun x29469 => ((g30 64 x29100 x29469).bind fun x29483 => (if ¬ (x29483.2 = true) then (g9_j4 x29100 rec29318 x29099 x29469 x29483.2 x29469 x29483.1.Epoch x29483.1.Pages x29483.1.Maps x29483.1.User x29483.2 x29469 x29483.1.Epoch x29483.1.Pages x29483.1.Maps x29483.1.User x29483.2 x29483.1.Epoch x29483.1.Pages x29483.1.Maps x29483.1.User x29483.2 x29483.2 (decide (¬ (x29483.2 = true))) true true x29483.1.Epoch x29483.1.Pages x29483.1.Maps x29483.1.User x29101 x29102 x29103 x29108) else (if x29099 ≥ 0 then (if x29483.1.Epoch ≤ x29101 then (g9_j4 x29100 rec29318 x29099 x29469 x29483.2 x29469 x29483.1.Epoch x29483.1.Pages x29483.1.Maps x29483.1.User x29483.2 x29469 x29483.1.Epoch x29483.1.Pages x29483.1.Maps x29483.1.User x29483.2 x29483.1.Epoch x29483.1.Pages x29483.1.Maps x29483.1.User x29483.2 x29483.2 (decide (¬ (x29483.2 = true))) false (decide (x29483.1.Epoch ≤ x29101)) x29483.1.Epoch x29483.1.Pages x29483.1.Maps x29483.1.User x29101 x29102 x29103 x29108) else (g9_j4 x29100 rec29318 x29100 x29469 x29483.2 x29469 x29483.1.Epoch x29483.1.Pages x29483.1.Maps x29483.1.User x29483.2 x29469 x29483.1.Epoch x29483.1.Pages x29483.1.Maps x29483.1.User x29483.2 x29483.1.Epoch x29483.1.Pages x29483.1.Maps x29483.1.User x29483.2 x29483.2 (decide (¬ (x29483.2 = true))) false (decide (x29483.1.Epoch ≤ x29101)) x29483.1.Epoch x29483.1.Pages x29483.1.Maps x29483.1.User x29483.1.Epoch x29483.1.Pages x29483.1.Maps x29483.1.User)) else (g9_j4 x29100 rec29318 x29100 x29469 x29483.2 x29469 x29483.1.Epoch x29483.1.Pages x29483.1.Maps x29483.1.User x29483.2 x29469 x29483.1.Epoch x29483.1.Pages x29483.1.Maps x29483.1.User x29483.2 x29483.1.Epoch x29483.1.Pages x29483.1.Maps x29483.1.User x29483.2 x29483.2 (decide (¬ (x29483.2 = true))) false false x29483.1.Epoch x29483.1.Pages x29483.1.Maps x29483.1.User x29483.1.Epoch x29483.1.Pages x29483.1.Maps x29483.1.User))))) else (if x29099 < 0 then (g9_j1 x26243 0 0 [] [] 0 60) else (g9_j1 x26243 x29101 x29102 x29103 x29108 x29099 0))
def g9_l3 (x26243 : ((List Int) × Int)) (x26290 : (List Int)) : Nat → Int → Int → Int → Int → (List Int) → (List Int) → Option Bool
  | 0, _, _, _, _, _, _ => none
  | n + 1, x29099, x29100, x29101, x29102, x29103, x29108 => g9_l3B x26243 x26290 (g9_l3 x26243 x26290 n) x29099 x29100 x29101 x29102 x29103 x29108
def g9  : Option Bool :=
  (g29).bind fun x26214 => ((g17 x26214).bind fun x26243 => ((g29).bind fun x26261 => ((g27 x26261).bind fun x26290 => (if (0 : Int) ≤ (if 2 < (([[], x26290] : List (List Int)).length : Int) then 2 else (([[], x26290] : List (List Int)).length : Int)) ∧ (if 2 < (([[], x26290] : List (List Int)).length : Int) then 2 else (([[], x26290] : List (List Int)).length : Int)) ≤ (([[], x26290] : List (List Int)).length : Int) then (g9_l3 x26243 x26290 FUEL (-1) 0 0 0 [] []) else none))))

-- incipit/incipitlaw06.short 
def g16_l1B (p0 : (List T_api_Head)) (rec30492 : Int → Option Bool) (x30407 : Int) : Option Bool :=
  if x30407 < (p0.length : Int) then ((getI p0 x30407).bind fun x30537 => (if (x30537.Maps.length : Int) > 100 then (some false) else (if (x30537.User.length : Int) > 3000 then (some false) else (rec30492 (IntKind.i64.wrap (x30407 + 1)))))) else (some true)
def g16_l1 (p0 : (List T_api_Head)) : Nat → Int → Option Bool
  | 0, _ => none
  | n + 1, x30407 => g16_l1B p0 (g16_l1 p0 n) x30407
def g16 (p0 : (List T_api_Head)) : Option Bool :=
  g16_l1 p0 FUEL 0

-- bytes.trimRightByte 
def g46_l1B (p1 : Int) (rec31326 : (List Int) → Option (List Int)) (x31273 : (List Int)) : Option (List Int) :=
  if (x31273.length : Int) > 0 then ((getI x31273 (IntKind.i64.wrap ((x31273.length : Int) - 1))).bind fun x31358 => (if x31358 = p1 then ((cutI x31273 0 (IntKind.i64.wrap ((x31273.length : Int) - 1))).bind fun y31367 => (rec31326 y31367)) else (some x31273))) else (some x31273)
def g46_l1 (p1 : Int) : Nat → (List Int) → Option (List Int)
  | 0, _ => none
  | n + 1, x31273 => g46_l1B p1 (g46_l1 p1 n) x31273
def g46 (p0 : (List Int)) (p1 : Int) : Option (List Int) :=
  g46_l1 p1 FUEL p0

-- bytes.trimLeftByte 
def g45_l1B (p1 : Int) (rec31977 : (List Int) → Option (List Int)) (x31924 : (List Int)) : Option (List Int) :=
  if (x31924.length : Int) > 0 then ((getI x31924 0).bind fun x32009 => (if x32009 = p1 then ((cutI x31924 1 (x31924.length : Int)).bind fun y32018 => (rec31977 y32018)) else (if (x31924.length : Int) = 0 then (some []) else (some x31924)))) else (if (x31924.length : Int) = 0 then (some []) else (some x31924))
def g45_l1 (p1 : Int) : Nat → (List Int) → Option (List Int)
  | 0, _ => none
  | n + 1, x31924 => g45_l1B p1 (g45_l1 p1 n) x31924
def g45 (p0 : (List Int)) (p1 : Int) : Option (List Int) :=
  g45_l1 p1 FUEL p0

-- bytes.Clone 
def g13 (p0 : (List Int)) : Option (List Int) :=
  (appI ([] : List Int) p0 1).bind fun x32618 => (some x32618)

-- incipit/incipitlaw06.HeadSector (('agg', ('.', '.', 'ro', 'ro')), ('agg', ('.', '.', 'ro', 'ro')), '.')
def g8_l4B (p2 : Int) (x34561 : ((List Int) × Int)) (x34579 : ((List Int) × Int)) (rec36517 : Int → (List Int) → Option Bool) (x36432 : Int) (x36433 : (List Int)) : Option Bool :=
  if x36432 < 4 then (if 0 ≤ (IntKind.u64.wrap x36432) then (if (andI .u8 (shrI .u8 p2 (IntKind.u64.wrap x36432)) 1) = 1 then (if (0 : Int) ≤ IntKind.i64.wrap (x36432 * 64) ∧ IntKind.i64.wrap (x36432 * 64) ≤ IntKind.i64.wrap ((IntKind.i64.wrap (x36432 + 1)) * 64) ∧ IntKind.i64.wrap ((IntKind.i64.wrap (x36432 + 1)) * 64) ≤ (x36433.length : Int) then ((cutI x34579.1 (IntKind.i64.wrap (x36432 * 64)) (x34579.1.length : Int)).bind fun y36578 => ((some (copyI x36433 (IntKind.i64.wrap (x36432 * 64)) (IntKind.i64.wrap ((IntKind.i64.wrap (x36432 + 1)) * 64)) y36578)).bind fun x36596 => (rec36517 (IntKind.i64.wrap (x36432 + 1)) x36596))) else none) else (rec36517 (IntKind.i64.wrap (x36432 + 1)) x36433)) else none) else (if (andI .u8 p2 1) = 1 then ((g24 x36433 x34579.1).bind fun x36618 => (some x36618)) else ((g24 x36433 x34561.1).bind fun x36632 => (some x36632)))
def g8_l4 (p2 : Int) (x34561 : ((List Int) × Int)) (x34579 : ((List Int) × Int)) : Nat → Int → (List Int) → Option Bool
  | 0, _, _ => none
  | n + 1, x36432, x36433 => g8_l4B p2 x34561 x34579 (g8_l4 p2 x34561 x34579 n) x36432 x36433
def g8_j3 (p2 : Int) (x34561 : ((List Int) × Int)) (x34579 : ((List Int) × Int)) (x36092 : Bool) : Option Bool :=
  if x36092 = true then (some false) else ((g13 x34561.1).bind fun x36096 => (if 0 < x36096.length then (g8_l4 p2 x34561 x34579 FUEL 0 x36096) else none))
def g8_j2 (p2 : Int) (x34561 : ((List Int) × Int)) (x34579 : ((List Int) × Int)) (x35690 : Bool) : Option Bool :=
  if x35690 = true then (some true) else (if (x34561.1.length : Int) ≠ 256 then (g8_j3 p2 x34561 x34579 true) else (if (x34579.1.length : Int) ≠ 256 then (g8_j3 p2 x34561 x34579 true) else ((cutI x34561.1 64 (x34561.1.length : Int)).bind fun y36648 => (if (y36648.length : Int) = 0 then (g8_j3 p2 x34561 x34579 false) else ((g46 y36648 0).bind fun x36754 => ((g45 x36754 0).bind fun x36765 => (g8_j3 p2 x34561 x34579 (decide ((x36765.length : Int) ≠ 0)))))))))
def g8_j1 (p0 : T_api_Head) (p1 : T_api_Head) (p2 : Int) (x34550 : Bool) : Option Bool :=
  if x34550 = true then ((g9).bind fun x34554 => (some x34554)) else ((g19 p0).bind fun x34561 => ((g19 p1).bind fun x34579 => (if x34561.2 ≠ 0 then (g8_j2 p2 x34561 x34579 true) else (g8_j2 p2 x34561 x34579 (decide (x34579.2 ≠ 0))))))
def g8 (p0 : T_api_Head) (p1 : T_api_Head) (p2 : Int) : Option Bool :=
  (g9).bind fun x36781 => (if ¬ (x36781 = true) then (g8_j1 p0 p1 p2 true) else ((g16 ([p0, p1] : List T_api_Head)).bind fun x36798 => (g8_j1 p0 p1 p2 (decide (¬ (x36798 = true))))))

end Go.Proofs.YtclnddebhjjpfaaDoor
