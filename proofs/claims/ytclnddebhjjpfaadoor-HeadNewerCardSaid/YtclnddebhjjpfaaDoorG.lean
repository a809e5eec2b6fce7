/- PRINTED BY sy.py: what each Go function computes, in plain Lean. -/
import Derived.Test.YtclnddebhjjpfaaDoorSXaa
namespace Go.Proofs.YtclnddebhjjpfaaDoor
open Go Go.SX Go.RowKit
set_option maxRecDepth 100000
set_option linter.unusedVariables false
def TAB1 : List Int := [128, 191, 160, 191, 128, 159, 144, 191, 128, 143, 0, 0, 0, 0, 0, 0, 0, 0, 0, 0, 0, 0, 0, 0, 0, 0, 0, 0, 0, 0, 0, 0]
def TAB2 : List Int := [0, 274646895, 549293790, 820201905, 1098587580, 1361435347, 1640403810, 1905808397, 2197175160, 2460548119, 2722870694, 2987750089, 3280807620, 3553878443, 3811616794, 4084100981]
structure T_api_Head where
  Epoch : Int
  Pages : Int
  Maps : (List Int)
  User : (List Int)
  deriving DecidableEq
structure T_api_Frame where
  Kind : Int
  Page : Int
  Epoch : Int
  Data : (List Int)
  deriving DecidableEq
structure T_pack_Reader where
  b : (List Int)
  err : Int
  made : Bool
  deriving DecidableEq
-- incipit/incipitlaw06.some 
def g29  : Option T_api_Head :=
  some (T_api_Head.mk 9 64 ([2] : List Int) ([7] : List Int))

-- incipit/head.maps 
def g64 (p0 : Int) : Option Int :=
  if p0 ≤ 1024 then (some 1) else (some 2)

-- slices.Index[[]int,int] 
def g77_l1B (p0 : (List Int)) (p1 : Int) (rec500 : Int → Option Int) (x479 : Int) : Option Int :=
  if x479 < (p0.length : Int) then ((getI p0 x479).bind fun x514 => (if p1 = x514 then (some x479) else (rec500 (IntKind.i64.wrap (x479 + 1))))) else (some (-1))
def g77_l1 (p0 : (List Int)) (p1 : Int) : Nat → Int → Option Int
  | 0, _ => none
  | n + 1, x479 => g77_l1B p0 p1 (g77_l1 p0 p1 n) x479
def g77 (p0 : (List Int)) (p1 : Int) : Option Int :=
  g77_l1 p0 p1 FUEL 0

-- slices.Contains[[]int,int] 
def g65 (p0 : (List Int)) (p1 : Int) : Option Bool :=
  (g77 p0 p1).bind fun x536 => (some (decide (x536 ≥ 0)))

-- incipit/head.holds (('agg', ('.', '.', 'ro', 'ro')), '.')
def g42_j1 (p0 : T_api_Head) (x3170 : Bool) : Option Bool :=
  if x3170 = true then (some (decide ((p0.User.length : Int) ≤ 32))) else (some false)
def g42_j4 (x3332 : Int) (rec3407 : Bool → Int → Option Bool) (x3441 : Bool) (x3442 : Int) (x3443 : Int) (x3444 : Bool) (x3445 : Bool) (x3446 : Bool) (x3447 : Bool) (x3448 : Bool) (x3449 : Bool) : Option Bool :=
  rec3407 x3441 (IntKind.i64.wrap (x3332 + 1))
def g42_l3B (p0 : T_api_Head) (rec3407 : Bool → Int → Option Bool) (x3331 : Bool) (x3332 : Int) : Option Bool :=
  if x3332 < (p0.Maps.length : Int) then ((getI p0.Maps x3332).bind fun x3454 => (if x3331 = true then (if x3454 ≥ 2 then (if x3454 < p0.Pages then ((cutI p0.Maps 0 x3332).bind fun y3465 => ((g65 y3465 x3454).bind fun x3475 => (g42_j4 x3332 rec3407 (decide (¬ (x3475 = true))) x3454 x3454 true (decide (x3454 ≥ 2)) true (decide (x3454 < p0.Pages)) true (decide (¬ (x3475 = true)))))) else (g42_j4 x3332 rec3407 false x3454 x3454 true (decide (x3454 ≥ 2)) true (decide (x3454 < p0.Pages)) false false)) else (g42_j4 x3332 rec3407 false x3454 x3454 true (decide (x3454 ≥ 2)) false false false false)) else (g42_j4 x3332 rec3407 false x3454 x3454 false false false false false false))) else (g42_j1 p0 x3331)
def g42_l3 (p0 : T_api_Head) : Nat → Bool → Int → Option Bool
  | 0, _, _ => none
  | n + 1, x3331, x3332 => g42_l3B p0 (g42_l3 p0 n) x3331 x3332
def g42_j2 (p0 : T_api_Head) (x3254 : Bool) : Option Bool :=
  g42_l3 p0 FUEL x3254 0
def g42_j5 (p0 : T_api_Head) (x3516 : Bool) : Option Bool :=
  if x3516 = true then ((g64 p0.Pages).bind fun x3524 => (g42_j2 p0 (decide ((p0.Maps.length : Int) = x3524)))) else (g42_j2 p0 false)
def g42 (p0 : T_api_Head) (p1 : Int) : Option Bool :=
  if p1 = 0 then (if p0.Pages ≥ 8 then (g42_j5 p0 (decide (p0.Pages ≤ 2048))) else (g42_j5 p0 false)) else (if p1 = 1 then (g42_j5 p0 true) else (if p1 = 2 then (g42_j2 p0 true) else (if p1 = 3 then (g42_j1 p0 true) else (some true))))

-- incipit/head.Check (('agg', ('.', '.', 'ro', 'ro')),)
def g21 (p0 : T_api_Head) : Option Int :=
  (g42 p0 0).bind fun x3597 => (if ¬ (x3597 = true) then (some 60) else (some 0))

-- incipit/pack.wide 
def g59_l1B (p0 : (List Int)) (p1 : Int) (p2 : Int) (x4063 : (List Int)) (rec4188 : Int → (List Int) → Option (List Int)) (x4163 : Int) (x4164 : (List Int)) : Option (List Int) :=
  if x4163 < p2 then (if 0 ≤ (IntKind.u64.wrap (IntKind.i64.wrap (8 * x4163))) then ((some (shrI .u64 p1 (IntKind.u64.wrap (IntKind.i64.wrap (8 * x4163))))).bind fun x4194 => (if (0 : Int) ≤ IntKind.i64.wrap ((IntKind.i64.wrap (p2 - 1)) - x4163) ∧ IntKind.i64.wrap ((IntKind.i64.wrap (p2 - 1)) - x4163) < (x4063.length : Int) - (p0.length : Int) then ((getI x4164 ((p0.length : Int) + (IntKind.i64.wrap ((IntKind.i64.wrap (p2 - 1)) - x4163)))).bind fun x4196 => ((setI x4164 ((p0.length : Int) + (IntKind.i64.wrap ((IntKind.i64.wrap (p2 - 1)) - x4163))) (IntKind.u8.wrap x4194)).bind fun y4201 => (rec4188 (IntKind.i64.wrap (x4163 + 1)) y4201))) else none)) else none) else (some x4164)
def g59_l1 (p0 : (List Int)) (p1 : Int) (p2 : Int) (x4063 : (List Int)) : Nat → Int → (List Int) → Option (List Int)
  | 0, _, _ => none
  | n + 1, x4163, x4164 => g59_l1B p0 p1 p2 x4063 (g59_l1 p0 p1 p2 x4063 n) x4163 x4164
def g59 (p0 : (List Int)) (p1 : Int) (p2 : Int) : Option (List Int) :=
  (repI (IntKind.i64.wrap ((p0.length : Int) + p2)) 0 1).bind fun x4046 => ((some (copyI x4046 0 (x4046.length : Int) p0)).bind fun x4063 => (if (0 : Int) ≤ (p0.length : Int) ∧ (p0.length : Int) ≤ (x4063.length : Int) ∧ (x4063.length : Int) ≤ (x4063.length : Int) then (g59_l1 p0 p1 p2 x4063 FUEL 0 x4063) else none))

-- incipit/pack.U16 
def g37 (p0 : (List Int)) (p1 : Int) : Option (List Int) :=
  (g59 p0 (IntKind.u64.wrap p1) 2).bind fun x4236 => (some x4236)

-- incipit/pack.Text 
def g38 (p0 : (List Int)) (p1 : (List Int)) : Option ((List Int) × Int) :=
  if (p1.length : Int) > 255 then (some (([] : List Int), 3)) else ((some (IntKind.i64.wrap ((p0.length : Int) + (IntKind.i64.wrap (1 + (p1.length : Int)))))).bind fun x4675 => ((repI x4675 0 1).bind fun x4677 => ((some (copyI x4677 0 (x4677.length : Int) p0)).bind fun x4694 => (if (0 : Int) ≤ (p0.length : Int) ∧ (p0.length : Int) ≤ (x4694.length : Int) ∧ (x4694.length : Int) ≤ (x4694.length : Int) then (if (0 : Int) ≤ 0 ∧ 0 < (x4694.length : Int) - (p0.length : Int) then ((getI x4694 ((p0.length : Int) + 0)).bind fun x4712 => ((setI x4694 ((p0.length : Int) + 0) (IntKind.u8.wrap (p1.length : Int))).bind fun y4717 => (if (0 : Int) ≤ 1 ∧ 1 ≤ (x4694.length : Int) - (p0.length : Int) ∧ (x4694.length : Int) - (p0.length : Int) ≤ (x4694.length : Int) - (p0.length : Int) then ((some (copyI y4717 ((p0.length : Int) + 1) ((p0.length : Int) + ((x4694.length : Int) - (p0.length : Int))) p1)).bind fun x4743 => (some (x4743, 0))) else none))) else none) else none))))

-- incipit/head.Put (('agg', ('.', '.', 'ro', 'ro')),)
def g17_l1B (p0 : T_api_Head) (rec5028 : (List Int) → Int → Option ((List Int) × Int)) (x4986 : (List Int)) (x4994 : Int) : Option ((List Int) × Int) :=
  if x4994 < (p0.Maps.length : Int) then ((getI p0.Maps x4994).bind fun x5033 => ((g37 x4986 (IntKind.u16.wrap x5033)).bind fun x5045 => (rec5028 x5045 (IntKind.i64.wrap (x4994 + 1))))) else ((g38 x4986 p0.User).bind fun x5066 => (if x5066.2 ≠ 0 then (some (([] : List Int), x5066.2)) else ((appZI x5066.1 (IntKind.i64.wrap (240 - (x5066.1.length : Int))) 0 1).bind fun x5087 => (some (x5087, 0)))))
def g17_l1 (p0 : T_api_Head) : Nat → (List Int) → Int → Option ((List Int) × Int)
  | 0, _, _ => none
  | n + 1, x4986, x4994 => g17_l1B p0 (g17_l1 p0 n) x4986 x4994
def g17 (p0 : T_api_Head) : Option ((List Int) × Int) :=
  (g21 p0).bind fun x4805 => (if x4805 ≠ 0 then (some (([] : List Int), x4805)) else ((g37 [] (IntKind.u16.wrap p0.Pages)).bind fun x4814 => ((appI x4814 ([IntKind.u8.wrap (p0.Maps.length : Int)] : List Int) 1).bind fun x4836 => (g17_l1 p0 FUEL x4836 0))))

-- incipit/head.Page 
def g25 (p0 : Int) : Option Int :=
  some (IntKind.i64.wrap (andI .u64 p0 1))

-- incipit/frame.right 
def g72 (p0 : Int) : Option Bool :=
  if p0 ≥ 1 then (some (decide (p0 ≤ 4))) else (some false)

-- incipit/frame.Check (('agg', ('.', '.', '.', 'ro')),)
def g60_j1 (p0 : T_api_Frame) (x5285 : Bool) : Option Int :=
  if x5285 = true then (some 41) else (if (p0.Data.length : Int) > 240 then (some 3) else (some 0))
def g60 (p0 : T_api_Frame) : Option Int :=
  (g72 p0.Kind).bind fun x5275 => (if ¬ (x5275 = true) then (some 42) else (if p0.Page < 0 then (g60_j1 p0 true) else (g60_j1 p0 (decide (p0.Page ≥ 2048)))))

-- incipit/pack.U64 
def g73 (p0 : (List Int)) (p1 : Int) : Option (List Int) :=
  (g59 p0 p1 8).bind fun x5383 => (some x5383)

-- incipit/crc.of 
def g88 (p0 : Int) : Option Int :=
  some (xorI .u32 p0 4294967295)

-- (incipit/crc.register).nibble 
def g91 (p0 : Int) : Option Int :=
  (getI TAB2 (andI .u32 p0 15)).bind fun x5687 => (some (xorI .u32 (shrI .u32 p0 4) x5687))

-- (incipit/crc.register).by 
def g89_l1B (p1 : (List Int)) (rec5989 : Int → Int → Option Int) (x5961 : Int) (x5962 : Int) : Option Int :=
  if x5962 < (p1.length : Int) then ((getI p1 x5962).bind fun x5994 => ((g91 (xorI .u32 x5961 (IntKind.u32.wrap x5994))).bind fun x6002 => ((g91 x6002).bind fun x6009 => (rec5989 x6009 (IntKind.i64.wrap (x5962 + 1)))))) else (some x5961)
def g89_l1 (p1 : (List Int)) : Nat → Int → Int → Option Int
  | 0, _, _ => none
  | n + 1, x5961, x5962 => g89_l1B p1 (g89_l1 p1 n) x5961 x5962
def g89 (p0 : Int) (p1 : (List Int)) : Option Int :=
  g89_l1 p1 FUEL p0 0

-- (incipit/crc.register).sum 
def g90 (p0 : Int) : Option Int :=
  some (xorI .u32 p0 4294967295)

-- incipit/pack.U32 
def g74 (p0 : (List Int)) (p1 : Int) : Option (List Int) :=
  (g59 p0 (IntKind.u64.wrap p1) 4).bind fun x6438 => (some x6438)

-- incipit/frame.lay (('agg', ('.', '.', '.', 'ro')),)
def g61 (p0 : T_api_Frame) : Option (List Int) :=
  (getI (List.replicate 256 (0 : Int)) 4).bind fun x6510 => ((setI (List.replicate 256 (0 : Int)) 4 (IntKind.u8.wrap p0.Kind)).bind fun y6515 => ((g37 [] (IntKind.u16.wrap p0.Page)).bind fun x6529 => ((g73 x6529 p0.Epoch).bind fun x6547 => ((some (copyI y6515 6 16 x6547)).bind fun x6582 => (if (0 : Int) ≤ 16 ∧ 16 ≤ (x6582.length : Int) ∧ (x6582.length : Int) ≤ (x6582.length : Int) then ((some (copyI x6582 16 (x6582.length : Int) p0.Data)).bind fun x6608 => (if (0 : Int) ≤ 4 ∧ 4 ≤ (x6608.length : Int) ∧ (x6608.length : Int) ≤ (x6608.length : Int) then ((g88 0).bind fun x7002 => ((cutI x6608 4 (x6608.length : Int)).bind fun y7030 => ((g89 x7002 y7030).bind fun x7033 => ((g90 x7033).bind fun x7043 => ((g74 [] x7043).bind fun x7050 => ((some (copyI x6608 0 4 x7050)).bind fun x7072 => (some x7072))))))) else none)) else none)))))

-- incipit/frame.Put (('agg', ('.', '.', '.', 'ro')),)
def g40 (p0 : T_api_Frame) : Option ((List Int) × Int) :=
  (g60 p0).bind fun x7118 => (if x7118 ≠ 0 then (some (([] : List Int), x7118)) else ((g61 p0).bind fun x7127 => (some (x7127, 0))))

-- incipit/head.Lay (('agg', ('.', '.', 'ro', 'ro')),)
def g19 (p0 : T_api_Head) : Option ((List Int) × Int) :=
  (g17 p0).bind fun x7187 => (if x7187.2 ≠ 0 then (some (([] : List Int), x7187.2)) else ((g25 p0.Epoch).bind fun x7211 => ((g40 (T_api_Frame.mk 1 x7211 p0.Epoch x7187.1)).bind fun x7222 => (some (x7222.1, x7222.2)))))

-- incipit/incipitlaw06.lay (('agg', ('.', '.', 'ro', 'ro')),)
def g27 (p0 : T_api_Head) : Option (List Int) :=
  (g19 p0).bind fun x7271 => (some x7271.1)

-- incipit/pack.Read 
def g32 (p0 : (List Int)) : Option T_pack_Reader :=
  (repI (IntKind.i64.wrap ((p0.length : Int) + 0)) 0 1).bind fun x7536 => ((some (copyI x7536 0 (x7536.length : Int) p0)).bind fun x7553 => (if (0 : Int) ≤ (p0.length : Int) ∧ (p0.length : Int) ≤ (x7553.length : Int) ∧ (x7553.length : Int) ≤ (x7553.length : Int) then (some (T_pack_Reader.mk x7553 0 true)) else none))

-- (*incipit/pack.Reader).none (('obj', 85, ('own', '.', '.')),)
def g56 (p0 : T_pack_Reader) : Option Bool :=
  if ¬ (p0.made = true) then (some true) else (some (decide (p0.err ≠ 0)))

-- (*incipit/pack.Reader).fails (('obj', 85, ('own', '.', '.')), '.')
def g57 (p0 : T_pack_Reader) (p1 : Int) : Option T_pack_Reader :=
  some (T_pack_Reader.mk p0.b p1 p0.made)

-- (*incipit/pack.Reader).next (('obj', 85, ('own', '.', '.')), '.')
def g58 (p0 : T_pack_Reader) (p1 : Int) : Option ((List Int) × T_pack_Reader) :=
  (g56 p0).bind fun x7768 => (if x7768 = true then (some ([], p0)) else (if p1 > (p0.b.length : Int) then ((g57 p0 10).bind fun x7800 => (some ([], x7800))) else (if p1 ≤ p1 ∧ p1 ≤ (p0.b.length : Int) then ((cutI p0.b 0 p1).bind fun y7822 => ((cutI p0.b p1 (p0.b.length : Int)).bind fun y7833 => (some (y7822, (T_pack_Reader.mk y7833 p0.err p0.made))))) else none)))

-- (*incipit/pack.Reader).number (('obj', 85, ('own', '.', '.')), '.')
def g55_l1B (x8023 : ((List Int) × T_pack_Reader)) (rec8062 : Int → Int → Option (Int × T_pack_Reader)) (x8050 : Int) (x8051 : Int) : Option (Int × T_pack_Reader) :=
  if x8051 < (x8023.1.length : Int) then ((getI x8023.1 x8051).bind fun x8067 => (rec8062 (orI .u64 (shlI .u64 x8050 8) (IntKind.u64.wrap x8067)) (IntKind.i64.wrap (x8051 + 1)))) else (some (x8050, x8023.2))
def g55_l1 (x8023 : ((List Int) × T_pack_Reader)) : Nat → Int → Int → Option (Int × T_pack_Reader)
  | 0, _, _ => none
  | n + 1, x8050, x8051 => g55_l1B x8023 (g55_l1 x8023 n) x8050 x8051
def g55 (p0 : T_pack_Reader) (p1 : Int) : Option (Int × T_pack_Reader) :=
  (g58 p0 p1).bind fun x8023 => (g55_l1 x8023 FUEL 0 0)

-- (*incipit/pack.Reader).U32 (('obj', 85, ('own', '.', '.')),)
def g83 (p0 : T_pack_Reader) : Option (Int × T_pack_Reader) :=
  (g55 p0 4).bind fun x8100 => (some (IntKind.u32.wrap x8100.1, x8100.2))

-- (*incipit/pack.Reader).none (('obj', 85, ('ro', '.', '.')),)
def g56_1 (p0 : T_pack_Reader) : Option Bool :=
  if ¬ (p0.made = true) then (some true) else (some (decide (p0.err ≠ 0)))

-- (*incipit/pack.Reader).fails (('obj', 85, ('ro', '.', '.')), '.')
def g57_1 (p0 : T_pack_Reader) (p1 : Int) : Option T_pack_Reader :=
  some (T_pack_Reader.mk p0.b p1 p0.made)

-- (*incipit/pack.Reader).next (('obj', 85, ('ro', '.', '.')), '.')
def g58_1 (p0 : T_pack_Reader) (p1 : Int) : Option ((List Int) × T_pack_Reader) :=
  (g56_1 p0).bind fun x8249 => (if x8249 = true then (some ([], p0)) else (if p1 > (p0.b.length : Int) then ((g57_1 p0 10).bind fun x8270 => (some ([], x8270))) else (if p1 ≤ p1 ∧ p1 ≤ (p0.b.length : Int) then ((cutI p0.b 0 p1).bind fun y8281 => ((cutI p0.b p1 (p0.b.length : Int)).bind fun y8292 => (some (y8281, (T_pack_Reader.mk y8292 p0.err p0.made))))) else none)))

-- (*incipit/pack.Reader).number (('obj', 85, ('ro', '.', '.')), '.')
def g55_1_l1B (x8479 : ((List Int) × T_pack_Reader)) (rec8518 : Int → Int → Option (Int × T_pack_Reader)) (x8506 : Int) (x8507 : Int) : Option (Int × T_pack_Reader) :=
  if x8507 < (x8479.1.length : Int) then ((getI x8479.1 x8507).bind fun x8523 => (rec8518 (orI .u64 (shlI .u64 x8506 8) (IntKind.u64.wrap x8523)) (IntKind.i64.wrap (x8507 + 1)))) else (some (x8506, x8479.2))
def g55_1_l1 (x8479 : ((List Int) × T_pack_Reader)) : Nat → Int → Int → Option (Int × T_pack_Reader)
  | 0, _, _ => none
  | n + 1, x8506, x8507 => g55_1_l1B x8479 (g55_1_l1 x8479 n) x8506 x8507
def g55_1 (p0 : T_pack_Reader) (p1 : Int) : Option (Int × T_pack_Reader) :=
  (g58_1 p0 p1).bind fun x8479 => (g55_1_l1 x8479 FUEL 0 0)

-- (*incipit/pack.Reader).U8 (('obj', 85, ('ro', '.', '.')),)
def g34 (p0 : T_pack_Reader) : Option (Int × T_pack_Reader) :=
  (g55_1 p0 1).bind fun x8553 => (some (IntKind.u8.wrap x8553.1, x8553.2))

-- (*incipit/pack.Reader).U16 (('obj', 85, ('ro', '.', '.')),)
def g33 (p0 : T_pack_Reader) : Option (Int × T_pack_Reader) :=
  (g55_1 p0 2).bind fun x8616 => (some (IntKind.u16.wrap x8616.1, x8616.2))

-- (*incipit/pack.Reader).U64 (('obj', 85, ('ro', '.', '.')),)
def g84 (p0 : T_pack_Reader) : Option (Int × T_pack_Reader) :=
  (g55_1 p0 8).bind fun x8663 => (some (x8663.1, x8663.2))

-- (*incipit/pack.Reader).Raw (('obj', 85, ('ro', '.', '.')), '.')
def g85 (p0 : T_pack_Reader) (p1 : Int) : Option ((List Int) × T_pack_Reader) :=
  (g56_1 p0).bind fun x8766 => (if x8766 = true then (some ([], p0)) else (if p1 < 0 then ((g57_1 p0 1).bind fun x8787 => (some ([], x8787))) else ((g58_1 p0 p1).bind fun x8798 => (some (x8798.1, x8798.2)))))

-- incipit/frame.take 
def g80 (p0 : (List Int)) : Option (T_api_Frame × Int) :=
  (g32 p0).bind fun x8855 => ((g83 x8855).bind fun x8873 => ((g34 x8873.2).bind fun x8884 => ((g34 x8884.2).bind fun x8900 => ((g33 x8900.2).bind fun x8911 => ((g84 x8911.2).bind fun x8922 => ((g85 x8922.2 240).bind fun x8937 => (some ((T_api_Frame.mk (IntKind.i64.wrap x8884.1) (IntKind.i64.wrap x8911.1) x8922.1 x8937.1), x8873.1))))))))

-- incipit/frame.Get 
def g70_j2 (p1 : Int) (x10877 : (T_api_Frame × Int)) (x12243 : Bool) : Option (T_api_Frame × Int) :=
  if x12243 = true then (some ((T_api_Frame.mk 0 0 0 []), 42)) else (if x10877.1.Page ≠ p1 then (some ((T_api_Frame.mk 0 0 0 []), 41)) else (if x10877.1.Page ≥ 2048 then (some ((T_api_Frame.mk 0 0 0 []), 41)) else (some (x10877.1, 0))))
def g70_j1 (p0 : (List Int)) (p1 : Int) (x10877 : (T_api_Frame × Int)) (x12222 : Bool) : Option (T_api_Frame × Int) :=
  if x12222 = true then (some ((T_api_Frame.mk 0 0 0 []), 40)) else ((g72 x10877.1.Kind).bind fun x12260 => (if ¬ (x12260 = true) then (g70_j2 p1 x10877 true) else ((getI (List.take 256 p0) 5).bind fun x12268 => (g70_j2 p1 x10877 (decide (x12268 ≠ 0))))))
def g70 (p0 : (List Int)) (p1 : Int) : Option (T_api_Frame × Int) :=
  if (p0.length : Int) ≠ 256 then (some ((T_api_Frame.mk 0 0 0 []), 1)) else (if 256 ≤ p0.length then ((g80 (List.take 256 p0)).bind fun x10877 => (if (List.take 256 p0) = (List.replicate 256 (0 : Int)) then (g70_j1 p0 p1 x10877 true) else (if (0 : Int) ≤ 4 ∧ 4 ≤ ((List.take 256 p0).length : Int) ∧ ((List.take 256 p0).length : Int) ≤ ((List.take 256 p0).length : Int) then ((g88 0).bind fun x12653 => ((cutI (List.take 256 p0) 4 ((List.take 256 p0).length : Int)).bind fun y12681 => ((g89 x12653 y12681).bind fun x12684 => ((g90 x12684).bind fun x12694 => (g70_j1 p0 p1 x10877 (decide (x10877.2 ≠ x12694))))))) else none))) else none)

-- incipit/frame.Want 
def g52_j1 (x12778 : (T_api_Frame × Int)) (x12822 : Bool) : Option (T_api_Frame × Int) :=
  if x12822 = true then (some ((T_api_Frame.mk 0 0 0 []), 42)) else (some (x12778.1, x12778.2))
def g52 (p0 : (List Int)) (p1 : Int) (p2 : (List Int)) : Option (T_api_Frame × Int) :=
  (g70 p0 p1).bind fun x12778 => (if x12778.2 = 0 then ((g65 p2 x12778.1.Kind).bind fun x12833 => (g52_j1 x12778 (decide (¬ (x12833 = true))))) else (g52_j1 x12778 false))

-- (*incipit/pack.Reader).U16 (('obj', 85, ('own', '.', '.')),)
def g33_1 (p0 : T_pack_Reader) : Option (Int × T_pack_Reader) :=
  (g55 p0 2).bind fun x13052 => (some (IntKind.u16.wrap x13052.1, x13052.2))

-- (*incipit/pack.Reader).Text (('obj', 85, ('ro', '.', '.')), '.')
def g35_j1 (p0 : T_pack_Reader) (x15601 : Int) : Option ((List Int) × T_pack_Reader) :=
  if x15601 ≠ 0 then ((g57_1 p0 x15601).bind fun x15617 => (some ([], x15617))) else ((getI p0.b 0).bind fun x15628 => ((g58_1 p0 (IntKind.i64.wrap (1 + (IntKind.i64.wrap x15628)))).bind fun x15636 => ((cutI x15636.1 1 (x15636.1.length : Int)).bind fun y15651 => (some (y15651, x15636.2)))))
def g35 (p0 : T_pack_Reader) (p1 : Int) : Option ((List Int) × T_pack_Reader) :=
  (g56_1 p0).bind fun x15565 => (if x15565 = true then (some ([], p0)) else (if p1 < 0 then (g35_j1 p0 1) else (if (p0.b.length : Int) = 0 then (g35_j1 p0 10) else ((getI p0.b 0).bind fun x15665 => (if (IntKind.i64.wrap x15665) > p1 then (g35_j1 p0 3) else ((getI p0.b 0).bind fun x15680 => (if (IntKind.i64.wrap x15680) ≥ (p0.b.length : Int) then (g35_j1 p0 10) else (g35_j1 p0 0))))))))

-- (*incipit/pack.Reader).Err (('obj', 85, ('ro', '.', '.')),)
def g36 (p0 : T_pack_Reader) : Option Int :=
  if ¬ (p0.made = true) then (some 2) else (some p0.err)

-- bytes.Equal 
def g24 (p0 : (List Int)) (p1 : (List Int)) : Option Bool :=
  some (decide ((strOfNums p0).toList = (strOfNums p1).toList))

-- incipit/head.Get 
def g14_l1B (p0 : Int) (p1 : (List Int)) (x15902 : (Int × T_pack_Reader)) (x17085 : (Int × T_pack_Reader)) (rec17850 : Int → (List Int) → Int → Bool → (List Int) → Option (T_api_Head × Int)) (x17436 : Int) (x17437 : (List Int)) (x17442 : Int) (x17443 : Bool) (x17444 : (List Int)) : Option (T_api_Head × Int) :=
  if x17436 < (if 3 < x17085.1 then 3 else x17085.1) then ((g33 (T_pack_Reader.mk x17437 x17442 x17443)).bind fun x18167 => ((appI x17444 ([IntKind.i64.wrap x18167.1] : List Int) 8).bind fun x18197 => (rec17850 (IntKind.u8.wrap (x17436 + 1)) x18167.2.b x18167.2.err x18167.2.made x18197))) else ((g35 (T_pack_Reader.mk x17437 x17442 x17443) 32).bind fun x18249 => ((g36 x18249.2).bind fun x18277 => (if x18277 ≠ 0 then (some ((T_api_Head.mk 0 0 ([] : List Int) []), 60)) else ((g17 (T_api_Head.mk p0 (IntKind.i64.wrap x15902.1) x17444 x18249.1)).bind fun x18349 => (if x18349.2 ≠ 0 then (some ((T_api_Head.mk 0 0 ([] : List Int) []), 60)) else ((g24 x18349.1 p1).bind fun x18388 => (if ¬ (x18388 = true) then (some ((T_api_Head.mk 0 0 ([] : List Int) []), 60)) else (some ((T_api_Head.mk p0 (IntKind.i64.wrap x15902.1) x17444 x18249.1), 0)))))))))
def g14_l1 (p0 : Int) (p1 : (List Int)) (x15902 : (Int × T_pack_Reader)) (x17085 : (Int × T_pack_Reader)) : Nat → Int → (List Int) → Int → Bool → (List Int) → Option (T_api_Head × Int)
  | 0, _, _, _, _, _ => none
  | n + 1, x17436, x17437, x17442, x17443, x17444 => g14_l1B p0 p1 x15902 x17085 (g14_l1 p0 p1 x15902 x17085 n) x17436 x17437 x17442 x17443 x17444
def g14 (p0 : Int) (p1 : (List Int)) : Option (T_api_Head × Int) :=
  (g32 p1).bind fun x15887 => ((g33_1 x15887).bind fun x15902 => ((g34 x15902.2).bind fun x17085 => (g14_l1 p0 p1 x15902 x17085 FUEL 0 x17085.2.b x17085.2.err x17085.2.made ([] : List Int))))

-- incipit/head.read 
def g30_j2 (p0 : Int) (x18700 : Int) (x18701 : (List Int)) (x18746 : Bool) : Option (T_api_Head × Bool) :=
  if x18746 = true then (some ((T_api_Head.mk 0 0 ([] : List Int) []), false)) else ((g14 x18700 x18701).bind fun x18753 => (if x18753.2 = 0 then (some (x18753.1, decide (x18753.1.Pages = p0))) else (some (x18753.1, false))))
def g30_j1 (p0 : Int) (p1 : Int) (x18698 : Int) (x18699 : Int) (x18700 : Int) (x18701 : (List Int)) (x18706 : Int) : Option (T_api_Head × Bool) :=
  if x18706 ≠ 0 then (g30_j2 p0 x18700 x18701 true) else ((g25 x18700).bind fun x18819 => (g30_j2 p0 x18700 x18701 (decide (x18819 ≠ p1))))
def g30_j3 (p0 : Int) (p1 : Int) (x18829 : (T_api_Frame × Int)) : Option (T_api_Head × Bool) :=
  g30_j1 p0 p1 x18829.1.Kind x18829.1.Page x18829.1.Epoch x18829.1.Data x18829.2
def g30 (p0 : Int) (p1 : Int) (p2 : (List Int)) : Option (T_api_Head × Bool) :=
  (g70 p2 p1).bind fun x18829 => (if x18829.2 = 0 then ((g65 ([1] : List Int) x18829.1.Kind).bind fun x18902 => (if ¬ (x18902 = true) then (g30_j1 p0 p1 0 0 0 [] 42) else (g30_j3 p0 p1 x18829))) else (g30_j3 p0 p1 x18829))

-- incipit/head.Choose 
def g10_j2 (x21800 : Int) (rec22017 : Int → Int → Int → Int → (List Int) → (List Int) → Option (T_api_Head × Int × Int)) (x22079 : Int) (x22080 : (List Int)) (x22085 : Bool) (x22086 : (List Int)) (x22091 : Int) (x22092 : Int) (x22093 : (List Int)) (x22098 : (List Int)) (x22103 : Bool) (x22104 : (List Int)) (x22109 : Int) (x22110 : Int) (x22111 : (List Int)) (x22116 : (List Int)) (x22121 : Bool) (x22122 : Int) (x22123 : Int) (x22124 : (List Int)) (x22129 : (List Int)) (x22134 : Bool) (x22135 : Bool) (x22136 : Bool) (x22137 : Bool) (x22138 : Bool) (x22139 : Int) (x22140 : Int) (x22141 : (List Int)) (x22146 : (List Int)) (x22151 : Int) (x22152 : Int) (x22153 : (List Int)) (x22158 : (List Int)) : Option (T_api_Head × Int × Int) :=
  rec22017 x22079 (IntKind.i64.wrap (x21800 + 1)) x22151 x22152 x22153 x22158
def g10_l1B (p0 : Int) (y21472 : (List (List Int))) (rec22017 : Int → Int → Int → Int → (List Int) → (List Int) → Option (T_api_Head × Int × Int)) (x21799 : Int) (x21800 : Int) (x21801 : Int) (x21802 : Int) (x21803 : (List Int)) (x21808 : (List Int)) : Option (T_api_Head × Int × Int) :=
  if x21800 < (y21472.length : Int) then ((getI y21472 x21800).bind fun x22167 => ((g30 p0 x21800 x22167).bind fun x22181 => (if ¬ (x22181.2 = true) then (g10_j2 x21800 rec22017 x21799 x22167 x22181.2 x22167 x22181.1.Epoch x22181.1.Pages x22181.1.Maps x22181.1.User x22181.2 x22167 x22181.1.Epoch x22181.1.Pages x22181.1.Maps x22181.1.User x22181.2 x22181.1.Epoch x22181.1.Pages x22181.1.Maps x22181.1.User x22181.2 x22181.2 (decide (¬ (x22181.2 = true))) true true x22181.1.Epoch x22181.1.Pages x22181.1.Maps x22181.1.User x21801 x21802 x21803 x21808) else (if x21799 ≥ 0 then (if x22181.1.Epoch ≤ x21801 then (g10_j2 x21800 rec22017 x21799 x22167 x22181.2 x22167 x22181.1.Epoch x22181.1.Pages x22181.1.Maps x22181.1.User x22181.2 x22167 x22181.1.Epoch x22181.1.Pages x22181.1.Maps x22181.1.User x22181.2 x22181.1.Epoch x22181.1.Pages x22181.1.Maps x22181.1.User x22181.2 x22181.2 (decide (¬ (x22181.2 = true))) false (decide (x22181.1.Epoch ≤ x21801)) x22181.1.Epoch x22181.1.Pages x22181.1.Maps x22181.1.User x21801 x21802 x21803 x21808) else (g10_j2 x21800 rec22017 x21800 x22167 x22181.2 x22167 x22181.1.Epoch x22181.1.Pages x22181.1.Maps x22181.1.User x22181.2 x22167 x22181.1.Epoch x22181.1.Pages x22181.1.Maps x22181.1.User x22181.2 x22181.1.Epoch x22181.1.Pages x22181.1.Maps x22181.1.User x22181.2 x22181.2 (decide (¬ (x22181.2 = true))) false (decide (x22181.1.Epoch ≤ x21801)) x22181.1.Epoch x22181.1.Pages x22181.1.Maps x22181.1.User x22181.1.Epoch x22181.1.Pages x22181.1.Maps x22181.1.User)) else (g10_j2 x21800 rec22017 x21800 x22167 x22181.2 x22167 x22181.1.Epoch x22181.1.Pages x22181.1.Maps x22181.1.User x22181.2 x22167 x22181.1.Epoch x22181.1.Pages x22181.1.Maps x22181.1.User x22181.2 x22181.1.Epoch x22181.1.Pages x22181.1.Maps x22181.1.User x22181.2 x22181.2 (decide (¬ (x22181.2 = true))) false false x22181.1.Epoch x22181.1.Pages x22181.1.Maps x22181.1.User x22181.1.Epoch x22181.1.Pages x22181.1.Maps x22181.1.User))))) else (if x21799 < 0 then (some ((T_api_Head.mk 0 0 [] []), 0, 60)) else (some ((T_api_Head.mk x21801 x21802 x21803 x21808), x21799, 0)))
def g10_l1 (p0 : Int) (y21472 : (List (List Int))) : Nat → Int → Int → Int → Int → (List Int) → (List Int) → Option (T_api_Head × Int × Int)
  | 0, _, _, _, _, _, _ => none
  | n + 1, x21799, x21800, x21801, x21802, x21803, x21808 => g10_l1B p0 y21472 (g10_l1 p0 y21472 n) x21799 x21800 x21801 x21802 x21803 x21808
def g10 (p0 : Int) (p1 : (List (List Int))) : Option (T_api_Head × Int × Int) :=
  (cutI p1 0 (if 2 < (p1.length : Int) then 2 else (p1.length : Int))).bind fun y21472 => (g10_l1 p0 y21472 FUEL (-1) 0 0 0 [] [])

-- incipit/incipitref06.Same (('agg', ('.', '.', 'ro', 'ro')), ('agg', ('.', '.', 'ro', 'ro')))
def g12_l2B (p0 : T_api_Head) (p1 : T_api_Head) (rec24526 : Int → Option Bool) (x24471 : Int) : Option Bool :=
  if x24471 < (p0.Maps.length : Int) then ((getI p0.Maps x24471).bind fun x24562 => ((getI p1.Maps x24471).bind fun x24571 => (if x24562 ≠ x24571 then (some false) else (rec24526 (IntKind.i64.wrap (x24471 + 1)))))) else (some true)
def g12_l2 (p0 : T_api_Head) (p1 : T_api_Head) : Nat → Int → Option Bool
  | 0, _ => none
  | n + 1, x24471 => g12_l2B p0 p1 (g12_l2 p0 p1 n) x24471
def g12_j1 (p0 : T_api_Head) (p1 : T_api_Head) (x24249 : Bool) : Option Bool :=
  if x24249 = true then (some false) else (g12_l2 p0 p1 FUEL 0)
def g12 (p0 : T_api_Head) (p1 : T_api_Head) : Option Bool :=
  if p0.Epoch ≠ p1.Epoch then (g12_j1 p0 p1 true) else (if p0.Pages ≠ p1.Pages then (g12_j1 p0 p1 true) else (if (p0.Maps.length : Int) ≠ (p1.Maps.length : Int) then (g12_j1 p0 p1 true) else (g12_j1 p0 p1 (decide ((strOfNums p0.User).toList ≠ (strOfNums p1.User).toList)))))

-- incipit/incipitlaw06.live 
def g9_j2 (x27953 : Bool) : Option Bool :=
  some x27953
def g9_j1 (x26249 : ((List Int) × Int)) (x27856 : Int) (x27857 : Int) (x27858 : (List Int)) (x27863 : (List Int)) (x27868 : Int) (x27869 : Int) : Option Bool :=
  if x26249.2 = 0 then (if x27869 = 0 then (if x27868 = 1 then ((g29).bind fun x27967 => ((g12 (T_api_Head.mk x27856 x27857 x27858 x27863) x27967).bind fun x27996 => (if x27996 = true then (if (x26249.1.length : Int) = 240 then ((cutI x26249.1 0 8).bind fun y28005 => ((g24 y28005 ([0, 64, 1, 0, 2, 1, 7, 0] : List Int)).bind fun x28024 => (g9_j2 x28024))) else (g9_j2 false)) else (g9_j2 false)))) else (g9_j2 false)) else (g9_j2 false)) else (g9_j2 false)
def g9_j4 (x29113 : Int) (rec29331 : Int → Int → Int → Int → (List Int) → (List Int) → Option Bool) (x29393 : Int) (x29394 : (List Int)) (x29399 : Bool) (x29401 : (List Int)) (x29406 : Int) (x29407 : Int) (x29408 : (List Int)) (x29413 : (List Int)) (x29418 : Bool) (x29419 : (List Int)) (x29424 : Int) (x29425 : Int) (x29426 : (List Int)) (x29431 : (List Int)) (x29436 : Bool) (x29437 : Int) (x29438 : Int) (x29439 : (List Int)) (x29444 : (List Int)) (x29449 : Bool) (x29450 : Bool) (x29451 : Bool) (x29452 : Bool) (x29453 : Bool) (x29454 : Int) (x29455 : Int) (x29456 : (List Int)) (x29461 : (List Int)) (x29466 : Int) (x29467 : Int) (x29468 : (List Int)) (x29473 : (List Int)) : Option Bool :=
  rec29331 x29393 (IntKind.i64.wrap (x29113 + 1)) x29466 x29467 x29468 x29473
def g9_l3B (x26249 : ((List Int) × Int)) (x26296 : (List Int)) (rec29331 : Int → Int → Int → Int → (List Int) → (List Int) → Option Bool) (x29112 : Int) (x29113 : Int) (x29114 : Int) (x29115 : Int) (x29116 : (List Int)) (x29121 : (List Int)) : Option Bool :=
  if x29113 < ((List.take ((if 2 < (([[], x26296] : List (List Int)).length : Int) then 2 else (([[], x26296] : List (List Int)).length : Int)).toNat) ([[], x26296] : List (List Int))).length : Int) then ((getI (List.take ((if 2 < (([[], x26296] : List (List Int)).length : Int) then 2 else (([[], x26296] : List (List Int)).length : Int)).toNat) ([[], x26296] : List (List Int))) x29113).bind fun x29482 => ((g30 64 x29113 x29482).bind fun x29496 => (if ¬ (x29496.2 = true) then (g9_j4 x29113 rec29331 x29112 x29482 x29496.2 x29482 x29496.1.Epoch x29496.1.Pages x29496.1.Maps x29496.1.User x29496.2 x29482 x29496.1.Epoch x29496.1.Pages x29496.1.Maps x29496.1.User x29496.2 x29496.1.Epoch x29496.1.Pages x29496.1.Maps x29496.1.User x29496.2 x29496.2 (decide (¬ (x29496.2 = true))) true true x29496.1.Epoch x29496.1.Pages x29496.1.Maps x29496.1.User x29114 x29115 x29116 x29121) else (if x29112 ≥ 0 then (if x29496.1.Epoch ≤ x29114 then (g9_j4 x29113 rec29331 x29112 x29482 x29496.2 x29482 x29496.1.Epoch x29496.1.Pages x29496.1.Maps x29496.1.User x29496.2 x29482 x29496.1.Epoch x29496.1.Pages x29496.1.Maps x29496.1.User x29496.2 x29496.1.Epoch x29496.1.Pages x29496.1.Maps x29496.1.User x29496.2 x29496.2 (decide (¬ (x29496.2 = true))) false (decide (x29496.1.Epoch ≤ x29114)) x29496.1.Epoch x29496.1.Pages x29496.1.Maps x29496.1.User x29114 x29115 x29116 x29121) else (g9_j4 x29113 rec29331 x29113 x29482 x29496.2 x29482 x29496.1.Epoch x29496.1.Pages x29496.1.Maps x29496.1.User x29496.2 x29482 x29496.1.Epoch x29496.1.Pages x29496.1.Maps x29496.1.User x29496.2 x29496.1.Epoch x29496.1.Pages x29496.1.Maps x29496.1.User x29496.2 x29496.2 (decide (¬ (x29496.2 = true))) false (decide (x29496.1.Epoch ≤ x29114)) x29496.1.Epoch x29496.1.Pages x29496.1.Maps x29496.1.User x29496.1.Epoch x29496.1.Pages x29496.1.Maps x29496.1.User)) else (g9_j4 x29113 rec29331 x29113 x29482 x29496.2 x29482 x29496.1.Epoch x29496.1.Pages x29496.1.Maps x29496.1.User x29496.2 x29482 x29496.1.Epoch x29496.1.Pages x29496.1.Maps x29496.1.User x29496.2 x29496.1.Epoch x29496.1.Pages x29496.1.Maps x29496.1.User x29496.2 x29496.2 (decide (¬ (x29496.2 = true))) false false x29496.1.Epoch x29496.1.Pages x29496.1.Maps x29496.1.User x29496.1.Epoch x29496.1.Pages x29496.1.Maps x29496.1.User))))) else (if x29112 < 0 then (g9_j1 x26249 0 0 [] [] 0 60) else (g9_j1 x26249 x29114 x29115 x29116 x29121 x29112 0))
def g9_l3 (x26249 : ((List Int) × Int)) (x26296 : (List Int)) : Nat → Int → Int → Int → Int → (List Int) → (List Int) → Option Bool
  | 0, _, _, _, _, _, _ => none
  | n + 1, x29112, x29113, x29114, x29115, x29116, x29121 => g9_l3B x26249 x26296 (g9_l3 x26249 x26296 n) x29112 x29113 x29114 x29115 x29116 x29121
def g9  : Option Bool :=
  (g29).bind fun x26220 => ((g17 x26220).bind fun x26249 => ((g29).bind fun x26267 => ((g27 x26267).bind fun x26296 => (if (0 : Int) ≤ (if 2 < (([[], x26296] : List (List Int)).length : Int) then 2 else (([[], x26296] : List (List Int)).length : Int)) ∧ (if 2 < (([[], x26296] : List (List Int)).length : Int) then 2 else (([[], x26296] : List (List Int)).length : Int)) ≤ (([[], x26296] : List (List Int)).length : Int) then (g9_l3 x26249 x26296 FUEL (-1) 0 0 0 [] []) else none))))

-- incipit/incipitlaw06.short 
def g16_l1B (p0 : (List T_api_Head)) (rec30505 : Int → Option Bool) (x30420 : Int) : Option Bool :=
  if x30420 < (p0.length : Int) then ((getI p0 x30420).bind fun x30550 => (if (x30550.Maps.length : Int) > 100 then (some false) else (if (x30550.User.length : Int) > 3000 then (some false) else (rec30505 (IntKind.i64.wrap (x30420 + 1)))))) else (some true)
def g16_l1 (p0 : (List T_api_Head)) : Nat → Int → Option Bool
  | 0, _ => none
  | n + 1, x30420 => g16_l1B p0 (g16_l1 p0 n) x30420
def g16 (p0 : (List T_api_Head)) : Option Bool :=
  g16_l1 p0 FUEL 0

-- slices.Equal[[]int,int] 
def g44_l1B (p0 : (List Int)) (p1 : (List Int)) (rec33045 : Int → Option Bool) (x32990 : Int) : Option Bool :=
  if x32990 < (p0.length : Int) then ((getI p0 x32990).bind fun x33081 => ((getI p1 x32990).bind fun x33090 => (if x33081 ≠ x33090 then (some false) else (rec33045 (IntKind.i64.wrap (x32990 + 1)))))) else (some true)
def g44_l1 (p0 : (List Int)) (p1 : (List Int)) : Nat → Int → Option Bool
  | 0, _ => none
  | n + 1, x32990 => g44_l1B p0 p1 (g44_l1 p0 p1 n) x32990
def g44 (p0 : (List Int)) (p1 : (List Int)) : Option Bool :=
  if (p0.length : Int) ≠ (p1.length : Int) then (some false) else (g44_l1 p0 p1 FUEL 0)

-- incipit/head.Same (('agg', ('.', '.', 'ro', 'ro')), ('agg', ('.', '.', 'ro', 'ro')))
def g23_j1 (x33180 : Bool) : Option Bool :=
  some x33180
def g23 (p0 : T_api_Head) (p1 : T_api_Head) : Option Bool :=
  if p0.Epoch = p1.Epoch then (if p0.Pages = p1.Pages then ((g44 p0.Maps p1.Maps).bind fun x33187 => (if x33187 = true then ((g24 p0.User p1.User).bind fun x33195 => (g23_j1 x33195)) else (g23_j1 false))) else (g23_j1 false)) else (g23_j1 false)

-- incipit/incipitlaw06.HeadNewer (('agg', ('.', '.', 'ro', 'ro')), ('agg', ('.', '.', 'ro', 'ro')), 'ro')
def g7_j8 (p0 : T_api_Head) (x50383 : Int) (x59745 : Int) (x59746 : Int) (x59747 : (List Int)) (x59752 : (List Int)) (x59757 : Int) (x59758 : Int) : Option Bool :=
  if x59758 = 0 then (if x59757 = (IntKind.i64.wrap (1 - x50383)) then ((g23 (T_api_Head.mk x59745 x59746 x59747 x59752) p0).bind fun x59774 => (some x59774)) else (some false)) else (some false)
def g7_j10 (x60861 : Int) (rec61079 : Int → Int → Int → Int → (List Int) → (List Int) → Option Bool) (x61141 : Int) (x61142 : (List Int)) (x61147 : Bool) (x61149 : (List Int)) (x61154 : Int) (x61155 : Int) (x61156 : (List Int)) (x61161 : (List Int)) (x61166 : Bool) (x61167 : (List Int)) (x61172 : Int) (x61173 : Int) (x61174 : (List Int)) (x61179 : (List Int)) (x61184 : Bool) (x61185 : Int) (x61186 : Int) (x61187 : (List Int)) (x61192 : (List Int)) (x61197 : Bool) (x61198 : Bool) (x61199 : Bool) (x61200 : Bool) (x61201 : Bool) (x61202 : Int) (x61203 : Int) (x61204 : (List Int)) (x61209 : (List Int)) (x61214 : Int) (x61215 : Int) (x61216 : (List Int)) (x61221 : (List Int)) : Option Bool :=
  rec61079 x61141 (IntKind.i64.wrap (x60861 + 1)) x61214 x61215 x61216 x61221
def g7_l9B (p0 : T_api_Head) (x50383 : Int) (y52071 : (List (List Int))) (rec61079 : Int → Int → Int → Int → (List Int) → (List Int) → Option Bool) (x60860 : Int) (x60861 : Int) (x60862 : Int) (x60863 : Int) (x60864 : (List Int)) (x60869 : (List Int)) : Option Bool :=
  if x60861 < ((List.take ((if 2 < (y52071.length : Int) then 2 else (y52071.length : Int)).toNat) y52071).length : Int) then ((getI (List.take ((if 2 < (y52071.length : Int) then 2 else (y52071.length : Int)).toNat) y52071) x60861).bind fun x61230 => ((g30 p0.Pages x60861 x61230).bind fun x61244 => (if ¬ (x61244.2 = true) then (g7_j10 x60861 rec61079 x60860 x61230 x61244.2 x61230 x61244.1.Epoch x61244.1.Pages x61244.1.Maps x61244.1.User x61244.2 x61230 x61244.1.Epoch x61244.1.Pages x61244.1.Maps x61244.1.User x61244.2 x61244.1.Epoch x61244.1.Pages x61244.1.Maps x61244.1.User x61244.2 x61244.2 (decide (¬ (x61244.2 = true))) true true x61244.1.Epoch x61244.1.Pages x61244.1.Maps x61244.1.User x60862 x60863 x60864 x60869) else (if x60860 ≥ 0 then (if x61244.1.Epoch ≤ x60862 then (g7_j10 x60861 rec61079 x60860 x61230 x61244.2 x61230 x61244.1.Epoch x61244.1.Pages x61244.1.Maps x61244.1.User x61244.2 x61230 x61244.1.Epoch x61244.1.Pages x61244.1.Maps x61244.1.User x61244.2 x61244.1.Epoch x61244.1.Pages x61244.1.Maps x61244.1.User x61244.2 x61244.2 (decide (¬ (x61244.2 = true))) false (decide (x61244.1.Epoch ≤ x60862)) x61244.1.Epoch x61244.1.Pages x61244.1.Maps x61244.1.User x60862 x60863 x60864 x60869) else (g7_j10 x60861 rec61079 x60861 x61230 x61244.2 x61230 x61244.1.Epoch x61244.1.Pages x61244.1.Maps x61244.1.User x61244.2 x61230 x61244.1.Epoch x61244.1.Pages x61244.1.Maps x61244.1.User x61244.2 x61244.1.Epoch x61244.1.Pages x61244.1.Maps x61244.1.User x61244.2 x61244.2 (decide (¬ (x61244.2 = true))) false (decide (x61244.1.Epoch ≤ x60862)) x61244.1.Epoch x61244.1.Pages x61244.1.Maps x61244.1.User x61244.1.Epoch x61244.1.Pages x61244.1.Maps x61244.1.User)) else (g7_j10 x60861 rec61079 x60861 x61230 x61244.2 x61230 x61244.1.Epoch x61244.1.Pages x61244.1.Maps x61244.1.User x61244.2 x61230 x61244.1.Epoch x61244.1.Pages x61244.1.Maps x61244.1.User x61244.2 x61244.1.Epoch x61244.1.Pages x61244.1.Maps x61244.1.User x61244.2 x61244.2 (decide (¬ (x61244.2 = true))) false false x61244.1.Epoch x61244.1.Pages x61244.1.Maps x61244.1.User x61244.1.Epoch x61244.1.Pages x61244.1.Maps x61244.1.User))))) else (if x60860 < 0 then (g7_j8 p0 x50383 0 0 [] [] 0 60) else (g7_j8 p0 x50383 x60862 x60863 x60864 x60869 x60860 0))
def g7_l9 (p0 : T_api_Head) (x50383 : Int) (y52071 : (List (List Int))) : Nat → Int → Int → Int → Int → (List Int) → (List Int) → Option Bool
  | 0, _, _, _, _, _, _ => none
  | n + 1, x60860, x60861, x60862, x60863, x60864, x60869 => g7_l9B p0 x50383 y52071 (g7_l9 p0 x50383 y52071 n) x60860 x60861 x60862 x60863 x60864 x60869
def g7_j7 (p0 : T_api_Head) (x50383 : Int) (y52071 : (List (List Int))) (x58204 : Int) : Option Bool :=
  if (0 : Int) ≤ (if 2 < (y52071.length : Int) then 2 else (y52071.length : Int)) ∧ (if 2 < (y52071.length : Int) then 2 else (y52071.length : Int)) ≤ (y52071.length : Int) then (g7_l9 p0 x50383 y52071 FUEL (-1) 0 0 0 [] []) else none
def g7_j11 (p0 : T_api_Head) (x50383 : Int) (y52071 : (List (List Int))) (x62840 : Int) (x62841 : Int) (x62842 : (List Int)) (x62847 : (List Int)) (x62852 : Int) (x62853 : Int) : Option Bool :=
  if x62853 = 0 then (some true) else (g7_j7 p0 x50383 y52071 x62853)
def g7_j13 (x63937 : Int) (rec64155 : Int → Int → Int → Int → (List Int) → (List Int) → Option Bool) (x64217 : Int) (x64218 : (List Int)) (x64223 : Bool) (x64225 : (List Int)) (x64230 : Int) (x64231 : Int) (x64232 : (List Int)) (x64237 : (List Int)) (x64242 : Bool) (x64243 : (List Int)) (x64248 : Int) (x64249 : Int) (x64250 : (List Int)) (x64255 : (List Int)) (x64260 : Bool) (x64261 : Int) (x64262 : Int) (x64263 : (List Int)) (x64268 : (List Int)) (x64273 : Bool) (x64274 : Bool) (x64275 : Bool) (x64276 : Bool) (x64277 : Bool) (x64278 : Int) (x64279 : Int) (x64280 : (List Int)) (x64285 : (List Int)) (x64290 : Int) (x64291 : Int) (x64292 : (List Int)) (x64297 : (List Int)) : Option Bool :=
  rec64155 x64217 (IntKind.i64.wrap (x63937 + 1)) x64290 x64291 x64292 x64297
def g7_l12B (p0 : T_api_Head) (p2 : (List Int)) (x50383 : Int) (y52071 : (List (List Int))) (rec64155 : Int → Int → Int → Int → (List Int) → (List Int) → Option Bool) (x63936 : Int) (x63937 : Int) (x63938 : Int) (x63939 : Int) (x63940 : (List Int)) (x63945 : (List Int)) : Option Bool :=
  if x63937 < ((List.take ((if 2 < (([[], p2] : List (List Int)).length : Int) then 2 else (([[], p2] : List (List Int)).length : Int)).toNat) ([[], p2] : List (List Int))).length : Int) then ((getI (List.take ((if 2 < (([[], p2] : List (List Int)).length : Int) then 2 else (([[], p2] : List (List Int)).length : Int)).toNat) ([[], p2] : List (List Int))) x63937).bind fun x64306 => ((g30 p0.Pages x63937 x64306).bind fun x64320 => (if ¬ (x64320.2 = true) then (g7_j13 x63937 rec64155 x63936 x64306 x64320.2 x64306 x64320.1.Epoch x64320.1.Pages x64320.1.Maps x64320.1.User x64320.2 x64306 x64320.1.Epoch x64320.1.Pages x64320.1.Maps x64320.1.User x64320.2 x64320.1.Epoch x64320.1.Pages x64320.1.Maps x64320.1.User x64320.2 x64320.2 (decide (¬ (x64320.2 = true))) true true x64320.1.Epoch x64320.1.Pages x64320.1.Maps x64320.1.User x63938 x63939 x63940 x63945) else (if x63936 ≥ 0 then (if x64320.1.Epoch ≤ x63938 then (g7_j13 x63937 rec64155 x63936 x64306 x64320.2 x64306 x64320.1.Epoch x64320.1.Pages x64320.1.Maps x64320.1.User x64320.2 x64306 x64320.1.Epoch x64320.1.Pages x64320.1.Maps x64320.1.User x64320.2 x64320.1.Epoch x64320.1.Pages x64320.1.Maps x64320.1.User x64320.2 x64320.2 (decide (¬ (x64320.2 = true))) false (decide (x64320.1.Epoch ≤ x63938)) x64320.1.Epoch x64320.1.Pages x64320.1.Maps x64320.1.User x63938 x63939 x63940 x63945) else (g7_j13 x63937 rec64155 x63937 x64306 x64320.2 x64306 x64320.1.Epoch x64320.1.Pages x64320.1.Maps x64320.1.User x64320.2 x64306 x64320.1.Epoch x64320.1.Pages x64320.1.Maps x64320.1.User x64320.2 x64320.1.Epoch x64320.1.Pages x64320.1.Maps x64320.1.User x64320.2 x64320.2 (decide (¬ (x64320.2 = true))) false (decide (x64320.1.Epoch ≤ x63938)) x64320.1.Epoch x64320.1.Pages x64320.1.Maps x64320.1.User x64320.1.Epoch x64320.1.Pages x64320.1.Maps x64320.1.User)) else (g7_j13 x63937 rec64155 x63937 x64306 x64320.2 x64306 x64320.1.Epoch x64320.1.Pages x64320.1.Maps x64320.1.User x64320.2 x64306 x64320.1.Epoch x64320.1.Pages x64320.1.Maps x64320.1.User x64320.2 x64320.1.Epoch x64320.1.Pages x64320.1.Maps x64320.1.User x64320.2 x64320.2 (decide (¬ (x64320.2 = true))) false false x64320.1.Epoch x64320.1.Pages x64320.1.Maps x64320.1.User x64320.1.Epoch x64320.1.Pages x64320.1.Maps x64320.1.User))))) else (if x63936 < 0 then (g7_j11 p0 x50383 y52071 0 0 [] [] 0 60) else (g7_j11 p0 x50383 y52071 x63938 x63939 x63940 x63945 x63936 0))
def g7_l12 (p0 : T_api_Head) (p2 : (List Int)) (x50383 : Int) (y52071 : (List (List Int))) : Nat → Int → Int → Int → Int → (List Int) → (List Int) → Option Bool
  | 0, _, _, _, _, _, _ => none
  | n + 1, x63936, x63937, x63938, x63939, x63940, x63945 => g7_l12B p0 p2 x50383 y52071 (g7_l12 p0 p2 x50383 y52071 n) x63936 x63937 x63938 x63939 x63940 x63945
def g7_j6 (p0 : T_api_Head) (p2 : (List Int)) (x50383 : Int) (y52071 : (List (List Int))) (x55126 : Int) : Option Bool :=
  if x50383 = 1 then (if (0 : Int) ≤ (if 2 < (([[], p2] : List (List Int)).length : Int) then 2 else (([[], p2] : List (List Int)).length : Int)) ∧ (if 2 < (([[], p2] : List (List Int)).length : Int) then 2 else (([[], p2] : List (List Int)).length : Int)) ≤ (([[], p2] : List (List Int)).length : Int) then (g7_l12 p0 p2 x50383 y52071 FUEL (-1) 0 0 0 [] []) else none) else (g7_j7 p0 x50383 y52071 x55126)
def g7_j14 (p0 : T_api_Head) (p2 : (List Int)) (x50383 : Int) (y52071 : (List (List Int))) (x65908 : Int) (x65909 : Int) (x65910 : (List Int)) (x65915 : (List Int)) (x65920 : Int) (x65921 : Int) : Option Bool :=
  if x50383 = 0 then (if x65921 = 0 then (some true) else (g7_j6 p0 p2 x50383 y52071 x65921)) else (g7_j6 p0 p2 x50383 y52071 x65921)
def g7_j16 (x66993 : Int) (rec67207 : Int → Int → Int → Int → (List Int) → (List Int) → Option Bool) (x67267 : Int) (x67268 : (List Int)) (x67273 : Bool) (x67275 : (List Int)) (x67280 : Int) (x67281 : Int) (x67282 : (List Int)) (x67287 : (List Int)) (x67292 : Bool) (x67293 : (List Int)) (x67298 : Int) (x67299 : Int) (x67300 : (List Int)) (x67305 : (List Int)) (x67310 : Bool) (x67311 : Int) (x67312 : Int) (x67313 : (List Int)) (x67318 : (List Int)) (x67323 : Bool) (x67324 : Bool) (x67325 : Bool) (x67326 : Bool) (x67327 : Bool) (x67328 : Int) (x67329 : Int) (x67330 : (List Int)) (x67335 : (List Int)) (x67340 : Int) (x67341 : Int) (x67342 : (List Int)) (x67347 : (List Int)) : Option Bool :=
  rec67207 x67267 (IntKind.i64.wrap (x66993 + 1)) x67340 x67341 x67342 x67347
def g7_l15B (p0 : T_api_Head) (p2 : (List Int)) (x50383 : Int) (y52071 : (List (List Int))) (rec67207 : Int → Int → Int → Int → (List Int) → (List Int) → Option Bool) (x66992 : Int) (x66993 : Int) (x66994 : Int) (x66995 : Int) (x66996 : (List Int)) (x67001 : (List Int)) : Option Bool :=
  if x66993 < ((x50383 + (if 2 < (IntKind.i64.wrap (x50383 + 1)) - x50383 then 2 else (IntKind.i64.wrap (x50383 + 1)) - x50383)) - x50383) then (if (0 : Int) ≤ x66993 ∧ x66993 < (x50383 + (if 2 < (IntKind.i64.wrap (x50383 + 1)) - x50383 then 2 else (IntKind.i64.wrap (x50383 + 1)) - x50383)) - x50383 then ((getI y52071 (x50383 + x66993)).bind fun x67356 => ((g30 p0.Pages x66993 x67356).bind fun x67368 => (if ¬ (x67368.2 = true) then (g7_j16 x66993 rec67207 x66992 x67356 x67368.2 x67356 x67368.1.Epoch x67368.1.Pages x67368.1.Maps x67368.1.User x67368.2 x67356 x67368.1.Epoch x67368.1.Pages x67368.1.Maps x67368.1.User x67368.2 x67368.1.Epoch x67368.1.Pages x67368.1.Maps x67368.1.User x67368.2 x67368.2 (decide (¬ (x67368.2 = true))) true true x67368.1.Epoch x67368.1.Pages x67368.1.Maps x67368.1.User x66994 x66995 x66996 x67001) else (if x66992 ≥ 0 then (if x67368.1.Epoch ≤ x66994 then (g7_j16 x66993 rec67207 x66992 x67356 x67368.2 x67356 x67368.1.Epoch x67368.1.Pages x67368.1.Maps x67368.1.User x67368.2 x67356 x67368.1.Epoch x67368.1.Pages x67368.1.Maps x67368.1.User x67368.2 x67368.1.Epoch x67368.1.Pages x67368.1.Maps x67368.1.User x67368.2 x67368.2 (decide (¬ (x67368.2 = true))) false (decide (x67368.1.Epoch ≤ x66994)) x67368.1.Epoch x67368.1.Pages x67368.1.Maps x67368.1.User x66994 x66995 x66996 x67001) else (g7_j16 x66993 rec67207 x66993 x67356 x67368.2 x67356 x67368.1.Epoch x67368.1.Pages x67368.1.Maps x67368.1.User x67368.2 x67356 x67368.1.Epoch x67368.1.Pages x67368.1.Maps x67368.1.User x67368.2 x67368.1.Epoch x67368.1.Pages x67368.1.Maps x67368.1.User x67368.2 x67368.2 (decide (¬ (x67368.2 = true))) false (decide (x67368.1.Epoch ≤ x66994)) x67368.1.Epoch x67368.1.Pages x67368.1.Maps x67368.1.User x67368.1.Epoch x67368.1.Pages x67368.1.Maps x67368.1.User)) else (g7_j16 x66993 rec67207 x66993 x67356 x67368.2 x67356 x67368.1.Epoch x67368.1.Pages x67368.1.Maps x67368.1.User x67368.2 x67356 x67368.1.Epoch x67368.1.Pages x67368.1.Maps x67368.1.User x67368.2 x67368.1.Epoch x67368.1.Pages x67368.1.Maps x67368.1.User x67368.2 x67368.2 (decide (¬ (x67368.2 = true))) false false x67368.1.Epoch x67368.1.Pages x67368.1.Maps x67368.1.User x67368.1.Epoch x67368.1.Pages x67368.1.Maps x67368.1.User))))) else none) else (if x66992 < 0 then (g7_j14 p0 p2 x50383 y52071 0 0 [] [] 0 60) else (g7_j14 p0 p2 x50383 y52071 x66994 x66995 x66996 x67001 x66992 0))
def g7_l15 (p0 : T_api_Head) (p2 : (List Int)) (x50383 : Int) (y52071 : (List (List Int))) : Nat → Int → Int → Int → Int → (List Int) → (List Int) → Option Bool
  | 0, _, _, _, _, _, _ => none
  | n + 1, x66992, x66993, x66994, x66995, x66996, x67001 => g7_l15B p0 p2 x50383 y52071 (g7_l15 p0 p2 x50383 y52071 n) x66992 x66993 x66994 x66995 x66996 x67001
def g7_j5 (p0 : T_api_Head) (p2 : (List Int)) (x50383 : Int) (x50481 : (List (List Int))) (x52060 : Bool) : Option Bool :=
  if x52060 = true then (some false) else ((getI x50481 x50383).bind fun x52064 => ((setI x50481 x50383 p2).bind fun y52071 => (if (0 : Int) ≤ x50383 ∧ x50383 ≤ IntKind.i64.wrap (x50383 + 1) ∧ IntKind.i64.wrap (x50383 + 1) ≤ (y52071.length : Int) then (if (0 : Int) ≤ 0 ∧ 0 ≤ (if 2 < (IntKind.i64.wrap (x50383 + 1)) - x50383 then 2 else (IntKind.i64.wrap (x50383 + 1)) - x50383) ∧ (if 2 < (IntKind.i64.wrap (x50383 + 1)) - x50383 then 2 else (IntKind.i64.wrap (x50383 + 1)) - x50383) ≤ (IntKind.i64.wrap (x50383 + 1)) - x50383 then (g7_l15 p0 p2 x50383 y52071 FUEL (-1) 0 0 0 [] []) else none) else none)))
def g7_j4 (p0 : T_api_Head) (p1 : T_api_Head) (p2 : (List Int)) (x50383 : Int) (x50481 : (List (List Int))) (x52010 : Int) (x52011 : Int) (x52012 : (List Int)) (x52017 : (List Int)) (x52022 : Int) (x52023 : Int) : Option Bool :=
  if x52023 ≠ 0 then (g7_j5 p0 p2 x50383 x50481 true) else (if x52022 ≠ x50383 then (g7_j5 p0 p2 x50383 x50481 true) else ((g23 (T_api_Head.mk x52010 x52011 x52012 x52017) (T_api_Head.mk (IntKind.u64.wrap (p0.Epoch + 1)) p0.Pages p1.Maps p1.User)).bind fun x67423 => (g7_j5 p0 p2 x50383 x50481 (decide (¬ (x67423 = true))))))
def g7_j18 (x68500 : Int) (rec68714 : Int → Int → Int → Int → (List Int) → (List Int) → Option Bool) (x68774 : Int) (x68775 : (List Int)) (x68780 : Bool) (x68782 : (List Int)) (x68787 : Int) (x68788 : Int) (x68789 : (List Int)) (x68794 : (List Int)) (x68799 : Bool) (x68800 : (List Int)) (x68805 : Int) (x68806 : Int) (x68807 : (List Int)) (x68812 : (List Int)) (x68817 : Bool) (x68818 : Int) (x68819 : Int) (x68820 : (List Int)) (x68825 : (List Int)) (x68830 : Bool) (x68831 : Bool) (x68832 : Bool) (x68833 : Bool) (x68834 : Bool) (x68835 : Int) (x68836 : Int) (x68837 : (List Int)) (x68842 : (List Int)) (x68847 : Int) (x68848 : Int) (x68849 : (List Int)) (x68854 : (List Int)) : Option Bool :=
  rec68714 x68774 (IntKind.i64.wrap (x68500 + 1)) x68847 x68848 x68849 x68854
def g7_l17B (p0 : T_api_Head) (p1 : T_api_Head) (p2 : (List Int)) (x50383 : Int) (x50481 : (List (List Int))) (rec68714 : Int → Int → Int → Int → (List Int) → (List Int) → Option Bool) (x68499 : Int) (x68500 : Int) (x68501 : Int) (x68502 : Int) (x68503 : (List Int)) (x68508 : (List Int)) : Option Bool :=
  if x68500 < (if 2 < (x50481.length : Int) then 2 else (x50481.length : Int)) then (if (0 : Int) ≤ x68500 ∧ x68500 < (if 2 < (x50481.length : Int) then 2 else (x50481.length : Int)) - 0 then ((getI x50481 (0 + x68500)).bind fun x68863 => ((g30 p0.Pages x68500 x68863).bind fun x68875 => (if ¬ (x68875.2 = true) then (g7_j18 x68500 rec68714 x68499 x68863 x68875.2 x68863 x68875.1.Epoch x68875.1.Pages x68875.1.Maps x68875.1.User x68875.2 x68863 x68875.1.Epoch x68875.1.Pages x68875.1.Maps x68875.1.User x68875.2 x68875.1.Epoch x68875.1.Pages x68875.1.Maps x68875.1.User x68875.2 x68875.2 (decide (¬ (x68875.2 = true))) true true x68875.1.Epoch x68875.1.Pages x68875.1.Maps x68875.1.User x68501 x68502 x68503 x68508) else (if x68499 ≥ 0 then (if x68875.1.Epoch ≤ x68501 then (g7_j18 x68500 rec68714 x68499 x68863 x68875.2 x68863 x68875.1.Epoch x68875.1.Pages x68875.1.Maps x68875.1.User x68875.2 x68863 x68875.1.Epoch x68875.1.Pages x68875.1.Maps x68875.1.User x68875.2 x68875.1.Epoch x68875.1.Pages x68875.1.Maps x68875.1.User x68875.2 x68875.2 (decide (¬ (x68875.2 = true))) false (decide (x68875.1.Epoch ≤ x68501)) x68875.1.Epoch x68875.1.Pages x68875.1.Maps x68875.1.User x68501 x68502 x68503 x68508) else (g7_j18 x68500 rec68714 x68500 x68863 x68875.2 x68863 x68875.1.Epoch x68875.1.Pages x68875.1.Maps x68875.1.User x68875.2 x68863 x68875.1.Epoch x68875.1.Pages x68875.1.Maps x68875.1.User x68875.2 x68875.1.Epoch x68875.1.Pages x68875.1.Maps x68875.1.User x68875.2 x68875.2 (decide (¬ (x68875.2 = true))) false (decide (x68875.1.Epoch ≤ x68501)) x68875.1.Epoch x68875.1.Pages x68875.1.Maps x68875.1.User x68875.1.Epoch x68875.1.Pages x68875.1.Maps x68875.1.User)) else (g7_j18 x68500 rec68714 x68500 x68863 x68875.2 x68863 x68875.1.Epoch x68875.1.Pages x68875.1.Maps x68875.1.User x68875.2 x68863 x68875.1.Epoch x68875.1.Pages x68875.1.Maps x68875.1.User x68875.2 x68875.1.Epoch x68875.1.Pages x68875.1.Maps x68875.1.User x68875.2 x68875.2 (decide (¬ (x68875.2 = true))) false false x68875.1.Epoch x68875.1.Pages x68875.1.Maps x68875.1.User x68875.1.Epoch x68875.1.Pages x68875.1.Maps x68875.1.User))))) else none) else (if x68499 < 0 then (g7_j4 p0 p1 p2 x50383 x50481 0 0 [] [] 0 60) else (g7_j4 p0 p1 p2 x50383 x50481 x68501 x68502 x68503 x68508 x68499 0))
def g7_l17 (p0 : T_api_Head) (p1 : T_api_Head) (p2 : (List Int)) (x50383 : Int) (x50481 : (List (List Int))) : Nat → Int → Int → Int → Int → (List Int) → (List Int) → Option Bool
  | 0, _, _, _, _, _, _ => none
  | n + 1, x68499, x68500, x68501, x68502, x68503, x68508 => g7_l17B p0 p1 p2 x50383 x50481 (g7_l17 p0 p1 p2 x50383 x50481 n) x68499 x68500 x68501 x68502 x68503 x68508
def g7_j3 (p0 : T_api_Head) (p1 : T_api_Head) (p2 : (List Int)) (x50383 : Int) (x50481 : (List (List Int))) : Option Bool :=
  if 0 < x50481.length then (if (0 : Int) ≤ 0 ∧ 0 ≤ (if 2 < (x50481.length : Int) then 2 else (x50481.length : Int)) ∧ (if 2 < (x50481.length : Int) then 2 else (x50481.length : Int)) ≤ (x50481.length : Int) then (g7_l17 p0 p1 p2 x50383 x50481 FUEL (-1) 0 0 0 [] []) else none) else none
def g7_j2 (p0 : T_api_Head) (p1 : T_api_Head) (p2 : (List Int)) (x50379 : Bool) : Option Bool :=
  if x50379 = true then (some true) else ((some (IntKind.i64.wrap (Int.tmod (IntKind.u64.wrap (p0.Epoch + 1)) 2))).bind fun x50383 => ((g27 p0).bind fun x50391 => ((g27 (T_api_Head.mk (IntKind.u64.wrap (p0.Epoch + 1)) p0.Pages p1.Maps p1.User)).bind fun x50405 => (if x50383 = 0 then ((g27 (T_api_Head.mk (IntKind.u64.wrap (p0.Epoch + 1)) p0.Pages p1.Maps p1.User)).bind fun x68935 => ((g27 p0).bind fun x68949 => (g7_j3 p0 p1 p2 x50383 ([x68935, x68949] : List (List Int))))) else (g7_j3 p0 p1 p2 x50383 ([x50391, x50405] : List (List Int)))))))
def g7_j1 (p0 : T_api_Head) (p1 : T_api_Head) (p2 : (List Int)) (x50317 : Bool) : Option Bool :=
  if x50317 = true then ((g9).bind fun x50321 => (some x50321)) else ((g21 p0).bind fun x68978 => (if x68978 ≠ 0 then (g7_j2 p0 p1 p2 true) else ((g21 (T_api_Head.mk (IntKind.u64.wrap (p0.Epoch + 1)) p0.Pages p1.Maps p1.User)).bind fun x68986 => (g7_j2 p0 p1 p2 (decide (x68986 ≠ 0))))))
def g7 (p0 : T_api_Head) (p1 : T_api_Head) (p2 : (List Int)) : Option Bool :=
  (g9).bind fun x68995 => (if ¬ (x68995 = true) then (g7_j1 p0 p1 p2 true) else ((g16 ([p0, p1] : List T_api_Head)).bind fun x69012 => (if ¬ (x69012 = true) then (g7_j1 p0 p1 p2 true) else (if (p2.length : Int) > 3000 then (g7_j1 p0 p1 p2 true) else (g7_j1 p0 p1 p2 (decide (p0.Epoch = 18446744073709551615)))))))

end Go.Proofs.YtclnddebhjjpfaaDoor
