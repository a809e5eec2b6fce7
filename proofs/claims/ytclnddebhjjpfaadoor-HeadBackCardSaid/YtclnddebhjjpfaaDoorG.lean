/- PRINTED BY sy.py: what each Go function computes, in plain Lean. -/
import Derived.Test.YtclnddebhjjpfaaDoorSXaa
namespace Go.Proofs.YtclnddebhjjpfaaDoor
open Go Go.SX Go.RowKit
set_option maxRecDepth 100000
set_option linter.unusedVariables false
def TAB1 : List Int := [128, 191, 160, 191, 128, 159, 144, 191, 128, 143, 0, 0, 0, 0, 0, 0, 0, 0, 0, 0, 0, 0, 0, 0, 0, 0, 0, 0, 0, 0, 0, 0]
def TAB2 : List Int := [0, 274646895, 549293790, 820201905, 1098587580, 1361435347, 1640403810, 1905808397, 2197175160, 2460548119, 2722870694, 2987750089, 3280807620, 3553878443, 3811616794, 4084100981]
structure T_api_Head where
  Epoch : Int
  Pages : Int
  Maps : (List Int)
  User : (List Int)
  deriving DecidableEq
structure T_api_Frame where
  Kind : Int
  Page : Int
  Epoch : Int
  Data : (List Int)
  deriving DecidableEq
structure T_pack_Reader where
  b : (List Int)
  err : Int
  made : Bool
  deriving DecidableEq
-- incipit/incipitlaw06.some 
def g29  : Option T_api_Head :=
  some (T_api_Head.mk 9 64 ([2] : List Int) ([7] : List Int))

-- incipit/head.maps 
def g64 (p0 : Int) : Option Int :=
  if p0 ≤ 1024 then (some 1) else (some 2)

-- slices.Index[[]int,int] 
def g77_l1B (p0 : (List Int)) (p1 : Int) (rec489 : Int → Option Int) (x468 : Int) : Option Int :=
  if x468 < (p0.length : Int) then ((getI p0 x468).bind fun x503 => (if p1 = x503 then (some x468) else (rec489 (IntKind.i64.wrap (x468 + 1))))) else (some (-1))
def g77_l1 (p0 : (List Int)) (p1 : Int) : Nat → Int → Option Int
  | 0, _ => none
  | n + 1, x468 => g77_l1B p0 p1 (g77_l1 p0 p1 n) x468
def g77 (p0 : (List Int)) (p1 : Int) : Option Int :=
  g77_l1 p0 p1 FUEL 0

-- slices.Contains[[]int,int] 
def g65 (p0 : (List Int)) (p1 : Int) : Option Bool :=
  (g77 p0 p1).bind fun x525 => (some (decide (x525 ≥ 0)))

-- incipit/head.holds (('agg', ('.', '.', 'ro', 'ro')), '.')
def g42_j1 (p0 : T_api_Head) (x3159 : Bool) : Option Bool :=
  if x3159 = true then (some (decide ((p0.User.length : Int) ≤ 32))) else (some false)
def g42_j4 (x3321 : Int) (rec3396 : Bool → Int → Option Bool) (x3430 : Bool) (x3431 : Int) (x3432 : Int) (x3433 : Bool) (x3434 : Bool) (x3435 : Bool) (x3436 : Bool) (x3437 : Bool) (x3438 : Bool) : Option Bool :=
  rec3396 x3430 (IntKind.i64.wrap (x3321 + 1))
def g42_l3B (p0 : T_api_Head) (rec3396 : Bool → Int → Option Bool) (x3320 : Bool) (x3321 : Int) : Option Bool :=
  if x3321 < (p0.Maps.length : Int) then ((getI p0.Maps x3321).bind fun x3443 => (if x3320 = true then (if x3443 ≥ 2 then (if x3443 < p0.Pages then ((cutI p0.Maps 0 x3321).bind fun y3454 => ((g65 y3454 x3443).bind fun x3464 => (g42_j4 x3321 rec3396 (decide (¬ (x3464 = true))) x3443 x3443 true (decide (x3443 ≥ 2)) true (decide (x3443 < p0.Pages)) true (decide (¬ (x3464 = true)))))) else (g42_j4 x3321 rec3396 false x3443 x3443 true (decide (x3443 ≥ 2)) true (decide (x3443 < p0.Pages)) false false)) else (g42_j4 x3321 rec3396 false x3443 x3443 true (decide (x3443 ≥ 2)) false false false false)) else (g42_j4 x3321 rec3396 false x3443 x3443 false false false false false false))) else (g42_j1 p0 x3320)
def g42_l3 (p0 : T_api_Head) : Nat → Bool → Int → Option Bool
  | 0, _, _ => none
  | n + 1, x3320, x3321 => g42_l3B p0 (g42_l3 p0 n) x3320 x3321
def g42_j2 (p0 : T_api_Head) (x3243 : Bool) : Option Bool :=
  g42_l3 p0 FUEL x3243 0
def g42_j5 (p0 : T_api_Head) (x3505 : Bool) : Option Bool :=
  if x3505 = true then ((g64 p0.Pages).bind fun x3513 => (g42_j2 p0 (decide ((p0.Maps.length : Int) = x3513)))) else (g42_j2 p0 false)
def g42 (p0 : T_api_Head) (p1 : Int) : Option Bool :=
  if p1 = 0 then (if p0.Pages ≥ 8 then (g42_j5 p0 (decide (p0.Pages ≤ 2048))) else (g42_j5 p0 false)) else (if p1 = 1 then (g42_j5 p0 true) else (if p1 = 2 then (g42_j2 p0 true) else (if p1 = 3 then (g42_j1 p0 true) else (some true))))

-- incipit/head.Check (('agg', ('.', '.', 'ro', 'ro')),)
def g21 (p0 : T_api_Head) : Option Int :=
  (g42 p0 0).bind fun x3586 => (if ¬ (x3586 = true) then (some 60) else (some 0))

-- incipit/pack.wide 
def g59_l1B (p0 : (List Int)) (p1 : Int) (p2 : Int) (x4052 : (List Int)) (rec4177 : Int → (List Int) → Option (List Int)) (x4152 : Int) (x4153 : (List Int)) : Option (List Int) :=
  if x4152 < p2 then (if 0 ≤ (IntKind.u64.wrap (IntKind.i64.wrap (8 * x4152))) then ((some (shrI .u64 p1 (IntKind.u64.wrap (IntKind.i64.wrap (8 * x4152))))).bind fun x4183 => (if (0 : Int) ≤ IntKind.i64.wrap ((IntKind.i64.wrap (p2 - 1)) - x4152) ∧ IntKind.i64.wrap ((IntKind.i64.wrap (p2 - 1)) - x4152) < (x4052.length : Int) - (p0.length : Int) then ((getI x4153 ((p0.length : Int) + (IntKind.i64.wrap ((IntKind.i64.wrap (p2 - 1)) - x4152)))).bind fun x4185 => ((setI x4153 ((p0.length : Int) + (IntKind.i64.wrap ((IntKind.i64.wrap (p2 - 1)) - x4152))) (IntKind.u8.wrap x4183)).bind fun y4190 => (rec4177 (IntKind.i64.wrap (x4152 + 1)) y4190))) else none)) else none) else (some x4153)
def g59_l1 (p0 : (List Int)) (p1 : Int) (p2 : Int) (x4052 : (List Int)) : Nat → Int → (List Int) → Option (List Int)
  | 0, _, _ => none
  | n + 1, x4152, x4153 => g59_l1B p0 p1 p2 x4052 (g59_l1 p0 p1 p2 x4052 n) x4152 x4153
def g59 (p0 : (List Int)) (p1 : Int) (p2 : Int) : Option (List Int) :=
  (repI (IntKind.i64.wrap ((p0.length : Int) + p2)) 0 1).bind fun x4035 => ((some (copyI x4035 0 (x4035.length : Int) p0)).bind fun x4052 => (if (0 : Int) ≤ (p0.length : Int) ∧ (p0.length : Int) ≤ (x4052.length : Int) ∧ (x4052.length : Int) ≤ (x4052.length : Int) then (g59_l1 p0 p1 p2 x4052 FUEL 0 x4052) else none))

-- incipit/pack.U16 
def g37 (p0 : (List Int)) (p1 : Int) : Option (List Int) :=
  (g59 p0 (IntKind.u64.wrap p1) 2).bind fun x4225 => (some x4225)

-- incipit/pack.Text 
def g38 (p0 : (List Int)) (p1 : (List Int)) : Option ((List Int) × Int) :=
  if (p1.length : Int) > 255 then (some (([] : List Int), 3)) else ((some (IntKind.i64.wrap ((p0.length : Int) + (IntKind.i64.wrap (1 + (p1.length : Int)))))).bind fun x4664 => ((repI x4664 0 1).bind fun x4666 => ((some (copyI x4666 0 (x4666.length : Int) p0)).bind fun x4683 => (if (0 : Int) ≤ (p0.length : Int) ∧ (p0.length : Int) ≤ (x4683.length : Int) ∧ (x4683.length : Int) ≤ (x4683.length : Int) then (if (0 : Int) ≤ 0 ∧ 0 < (x4683.length : Int) - (p0.length : Int) then ((getI x4683 ((p0.length : Int) + 0)).bind fun x4701 => ((setI x4683 ((p0.length : Int) + 0) (IntKind.u8.wrap (p1.length : Int))).bind fun y4706 => (if (0 : Int) ≤ 1 ∧ 1 ≤ (x4683.length : Int) - (p0.length : Int) ∧ (x4683.length : Int) - (p0.length : Int) ≤ (x4683.length : Int) - (p0.length : Int) then ((some (copyI y4706 ((p0.length : Int) + 1) ((p0.length : Int) + ((x4683.length : Int) - (p0.length : Int))) p1)).bind fun x4732 => (some (x4732, 0))) else none))) else none) else none))))

-- incipit/head.Put (('agg', ('.', '.', 'ro', 'ro')),)
def g17_l1B (p0 : T_api_Head) (rec5017 : (List Int) → Int → Option ((List Int) × Int)) (x4975 : (List Int)) (x4983 : Int) : Option ((List Int) × Int) :=
  if x4983 < (p0.Maps.length : Int) then ((getI p0.Maps x4983).bind fun x5022 => ((g37 x4975 (IntKind.u16.wrap x5022)).bind fun x5034 => (rec5017 x5034 (IntKind.i64.wrap (x4983 + 1))))) else ((g38 x4975 p0.User).bind fun x5055 => (if x5055.2 ≠ 0 then (some (([] : List Int), x5055.2)) else ((appZI x5055.1 (IntKind.i64.wrap (240 - (x5055.1.length : Int))) 0 1).bind fun x5076 => (some (x5076, 0)))))
def g17_l1 (p0 : T_api_Head) : Nat → (List Int) → Int → Option ((List Int) × Int)
  | 0, _, _ => none
  | n + 1, x4975, x4983 => g17_l1B p0 (g17_l1 p0 n) x4975 x4983
def g17 (p0 : T_api_Head) : Option ((List Int) × Int) :=
  (g21 p0).bind fun x4794 => (if x4794 ≠ 0 then (some (([] : List Int), x4794)) else ((g37 [] (IntKind.u16.wrap p0.Pages)).bind fun x4803 => ((appI x4803 ([IntKind.u8.wrap (p0.Maps.length : Int)] : List Int) 1).bind fun x4825 => (g17_l1 p0 FUEL x4825 0))))

-- incipit/head.Page 
def g25 (p0 : Int) : Option Int :=
  some (IntKind.i64.wrap (andI .u64 p0 1))

-- incipit/frame.right 
def g72 (p0 : Int) : Option Bool :=
  if p0 ≥ 1 then (some (decide (p0 ≤ 4))) else (some false)

-- incipit/frame.Check (('agg', ('.', '.', '.', 'ro')),)
def g60_j1 (p0 : T_api_Frame) (x5274 : Bool) : Option Int :=
  if x5274 = true then (some 41) else (if (p0.Data.length : Int) > 240 then (some 3) else (some 0))
def g60 (p0 : T_api_Frame) : Option Int :=
  (g72 p0.Kind).bind fun x5264 => (if ¬ (x5264 = true) then (some 42) else (if p0.Page < 0 then (g60_j1 p0 true) else (g60_j1 p0 (decide (p0.Page ≥ 2048)))))

-- incipit/pack.U64 
def g73 (p0 : (List Int)) (p1 : Int) : Option (List Int) :=
  (g59 p0 p1 8).bind fun x5372 => (some x5372)

-- incipit/crc.of 
def g88 (p0 : Int) : Option Int :=
  some (xorI .u32 p0 4294967295)

-- (incipit/crc.register).nibble 
def g91 (p0 : Int) : Option Int :=
  (getI TAB2 (andI .u32 p0 15)).bind fun x5676 => (some (xorI .u32 (shrI .u32 p0 4) x5676))

-- (incipit/crc.register).by 
def g89_l1B (p1 : (List Int)) (rec5978 : Int → Int → Option Int) (x5950 : Int) (x5951 : Int) : Option Int :=
  if x5951 < (p1.length : Int) then ((getI p1 x5951).bind fun x5983 => ((g91 (xorI .u32 x5950 (IntKind.u32.wrap x5983))).bind fun x5991 => ((g91 x5991).bind fun x5998 => (rec5978 x5998 (IntKind.i64.wrap (x5951 + 1)))))) else (some x5950)
def g89_l1 (p1 : (List Int)) : Nat → Int → Int → Option Int
  | 0, _, _ => none
  | n + 1, x5950, x5951 => g89_l1B p1 (g89_l1 p1 n) x5950 x5951
def g89 (p0 : Int) (p1 : (List Int)) : Option Int :=
  g89_l1 p1 FUEL p0 0

-- (incipit/crc.register).sum 
def g90 (p0 : Int) : Option Int :=
  some (xorI .u32 p0 4294967295)

-- incipit/pack.U32 
def g74 (p0 : (List Int)) (p1 : Int) : Option (List Int) :=
  (g59 p0 (IntKind.u64.wrap p1) 4).bind fun x6427 => (some x6427)

-- incipit/frame.lay (('agg', ('.', '.', '.', 'ro')),)
def g61 (p0 : T_api_Frame) : Option (List Int) :=
  (getI (List.replicate 256 (0 : Int)) 4).bind fun x6499 => ((setI (List.replicate 256 (0 : Int)) 4 (IntKind.u8.wrap p0.Kind)).bind fun y6504 => ((g37 [] (IntKind.u16.wrap p0.Page)).bind fun x6518 => ((g73 x6518 p0.Epoch).bind fun x6536 => ((some (copyI y6504 6 16 x6536)).bind fun x6571 => (if (0 : Int) ≤ 16 ∧ 16 ≤ (x6571.length : Int) ∧ (x6571.length : Int) ≤ (x6571.length : Int) then ((some (copyI x6571 16 (x6571.length : Int) p0.Data)).bind fun x6597 => (if (0 : Int) ≤ 4 ∧ 4 ≤ (x6597.length : Int) ∧ (x6597.length : Int) ≤ (x6597.length : Int) then ((g88 0).bind fun x6991 => ((cutI x6597 4 (x6597.length : Int)).bind fun y7019 => ((g89 x6991 y7019).bind fun x7022 => ((g90 x7022).bind fun x7032 => ((g74 [] x7032).bind fun x7039 => ((some (copyI x6597 0 4 x7039)).bind fun x7061 => (some x7061))))))) else none)) else none)))))

-- incipit/frame.Put (('agg', ('.', '.', '.', 'ro')),)
def g40 (p0 : T_api_Frame) : Option ((List Int) × Int) :=
  (g60 p0).bind fun x7107 => (if x7107 ≠ 0 then (some (([] : List Int), x7107)) else ((g61 p0).bind fun x7116 => (some (x7116, 0))))

-- incipit/head.Lay (('agg', ('.', '.', 'ro', 'ro')),)
def g19 (p0 : T_api_Head) : Option ((List Int) × Int) :=
  (g17 p0).bind fun x7176 => (if x7176.2 ≠ 0 then (some (([] : List Int), x7176.2)) else ((g25 p0.Epoch).bind fun x7200 => ((g40 (T_api_Frame.mk 1 x7200 p0.Epoch x7176.1)).bind fun x7211 => (some (x7211.1, x7211.2)))))

-- incipit/incipitlaw06.lay (('agg', ('.', '.', 'ro', 'ro')),)
def g27 (p0 : T_api_Head) : Option (List Int) :=
  (g19 p0).bind fun x7260 => (some x7260.1)

-- incipit/pack.Read 
def g32 (p0 : (List Int)) : Option T_pack_Reader :=
  (repI (IntKind.i64.wrap ((p0.length : Int) + 0)) 0 1).bind fun x7525 => ((some (copyI x7525 0 (x7525.length : Int) p0)).bind fun x7542 => (if (0 : Int) ≤ (p0.length : Int) ∧ (p0.length : Int) ≤ (x7542.length : Int) ∧ (x7542.length : Int) ≤ (x7542.length : Int) then (some (T_pack_Reader.mk x7542 0 true)) else none))

-- (*incipit/pack.Reader).none (('obj', 85, ('own', '.', '.')),)
def g56 (p0 : T_pack_Reader) : Option Bool :=
  if ¬ (p0.made = true) then (some true) else (some (decide (p0.err ≠ 0)))

-- (*incipit/pack.Reader).fails (('obj', 85, ('own', '.', '.')), '.')
def g57 (p0 : T_pack_Reader) (p1 : Int) : Option T_pack_Reader :=
  some (T_pack_Reader.mk p0.b p1 p0.made)

-- (*incipit/pack.Reader).next (('obj', 85, ('own', '.', '.')), '.')
def g58 (p0 : T_pack_Reader) (p1 : Int) : Option ((List Int) × T_pack_Reader) :=
  (g56 p0).bind fun x7757 => (if x7757 = true then (some ([], p0)) else (if p1 > (p0.b.length : Int) then ((g57 p0 10).bind fun x7789 => (some ([], x7789))) else (if p1 ≤ p1 ∧ p1 ≤ (p0.b.length : Int) then ((cutI p0.b 0 p1).bind fun y7811 => ((cutI p0.b p1 (p0.b.length : Int)).bind fun y7822 => (some (y7811, (T_pack_Reader.mk y7822 p0.err p0.made))))) else none)))

-- (*incipit/pack.Reader).number (('obj', 85, ('own', '.', '.')), '.')
def g55_l1B (x8012 : ((List Int) × T_pack_Reader)) (rec8051 : Int → Int → Option (Int × T_pack_Reader)) (x8039 : Int) (x8040 : Int) : Option (Int × T_pack_Reader) :=
  if x8040 < (x8012.1.length : Int) then ((getI x8012.1 x8040).bind fun x8056 => (rec8051 (orI .u64 (shlI .u64 x8039 8) (IntKind.u64.wrap x8056)) (IntKind.i64.wrap (x8040 + 1)))) else (some (x8039, x8012.2))
def g55_l1 (x8012 : ((List Int) × T_pack_Reader)) : Nat → Int → Int → Option (Int × T_pack_Reader)
  | 0, _, _ => none
  | n + 1, x8039, x8040 => g55_l1B x8012 (g55_l1 x8012 n) x8039 x8040
def g55 (p0 : T_pack_Reader) (p1 : Int) : Option (Int × T_pack_Reader) :=
  (g58 p0 p1).bind fun x8012 => (g55_l1 x8012 FUEL 0 0)

-- (*incipit/pack.Reader).U32 (('obj', 85, ('own', '.', '.')),)
def g83 (p0 : T_pack_Reader) : Option (Int × T_pack_Reader) :=
  (g55 p0 4).bind fun x8089 => (some (IntKind.u32.wrap x8089.1, x8089.2))

-- (*incipit/pack.Reader).none (('obj', 85, ('ro', '.', '.')),)
def g56_1 (p0 : T_pack_Reader) : Option Bool :=
  if ¬ (p0.made = true) then (some true) else (some (decide (p0.err ≠ 0)))

-- (*incipit/pack.Reader).fails (('obj', 85, ('ro', '.', '.')), '.')
def g57_1 (p0 : T_pack_Reader) (p1 : Int) : Option T_pack_Reader :=
  some (T_pack_Reader.mk p0.b p1 p0.made)

-- (*incipit/pack.Reader).next (('obj', 85, ('ro', '.', '.')), '.')
def g58_1 (p0 : T_pack_Reader) (p1 : Int) : Option ((List Int) × T_pack_Reader) :=
  (g56_1 p0).bind fun x8238 => (if x8238 = true then (some ([], p0)) else (if p1 > (p0.b.length : Int) then ((g57_1 p0 10).bind fun x8259 => (some ([], x8259))) else (if p1 ≤ p1 ∧ p1 ≤ (p0.b.length : Int) then ((cutI p0.b 0 p1).bind fun y8270 => ((cutI p0.b p1 (p0.b.length : Int)).bind fun y8281 => (some (y8270, (T_pack_Reader.mk y8281 p0.err p0.made))))) else none)))

-- (*incipit/pack.Reader).number (('obj', 85, ('ro', '.', '.')), '.')
def g55_1_l1B (x8468 : ((List Int) × T_pack_Reader)) (rec8507 : Int → Int → Option (Int × T_pack_Reader)) (x8495 : Int) (x8496 : Int) : Option (Int × T_pack_Reader) :=
  if x8496 < (x8468.1.length : Int) then ((getI x8468.1 x8496).bind fun x8512 => (rec8507 (orI .u64 (shlI .u64 x8495 8) (IntKind.u64.wrap x8512)) (IntKind.i64.wrap (x8496 + 1)))) else (some (x8495, x8468.2))
def g55_1_l1 (x8468 : ((List Int) × T_pack_Reader)) : Nat → Int → Int → Option (Int × T_pack_Reader)
  | 0, _, _ => none
  | n + 1, x8495, x8496 => g55_1_l1B x8468 (g55_1_l1 x8468 n) x8495 x8496
def g55_1 (p0 : T_pack_Reader) (p1 : Int) : Option (Int × T_pack_Reader) :=
  (g58_1 p0 p1).bind fun x8468 => (g55_1_l1 x8468 FUEL 0 0)

-- (*incipit/pack.Reader).U8 (('obj', 85, ('ro', '.', '.')),)
def g34 (p0 : T_pack_Reader) : Option (Int × T_pack_Reader) :=
  (g55_1 p0 1).bind fun x8542 => (some (IntKind.u8.wrap x8542.1, x8542.2))

-- (*incipit/pack.Reader).U16 (('obj', 85, ('ro', '.', '.')),)
def g33 (p0 : T_pack_Reader) : Option (Int × T_pack_Reader) :=
  (g55_1 p0 2).bind fun x8605 => (some (IntKind.u16.wrap x8605.1, x8605.2))

-- (*incipit/pack.Reader).U64 (('obj', 85, ('ro', '.', '.')),)
def g84 (p0 : T_pack_Reader) : Option (Int × T_pack_Reader) :=
  (g55_1 p0 8).bind fun x8652 => (some (x8652.1, x8652.2))

-- (*incipit/pack.Reader).Raw (('obj', 85, ('ro', '.', '.')), '.')
def g85 (p0 : T_pack_Reader) (p1 : Int) : Option ((List Int) × T_pack_Reader) :=
  (g56_1 p0).bind fun x8755 => (if x8755 = true then (some ([], p0)) else (if p1 < 0 then ((g57_1 p0 1).bind fun x8776 => (some ([], x8776))) else ((g58_1 p0 p1).bind fun x8787 => (some (x8787.1, x8787.2)))))

-- incipit/frame.take 
def g80 (p0 : (List Int)) : Option (T_api_Frame × Int) :=
  (g32 p0).bind fun x8844 => ((g83 x8844).bind fun x8862 => ((g34 x8862.2).bind fun x8873 => ((g34 x8873.2).bind fun x8889 => ((g33 x8889.2).bind fun x8900 => ((g84 x8900.2).bind fun x8911 => ((g85 x8911.2 240).bind fun x8926 => (some ((T_api_Frame.mk (IntKind.i64.wrap x8873.1) (IntKind.i64.wrap x8900.1) x8911.1 x8926.1), x8862.1))))))))

-- incipit/frame.Get 
def g70_j2 (p1 : Int) (x10866 : (T_api_Frame × Int)) (x12232 : Bool) : Option (T_api_Frame × Int) :=
  if x12232 = true then (some ((T_api_Frame.mk 0 0 0 []), 42)) else (if x10866.1.Page ≠ p1 then (some ((T_api_Frame.mk 0 0 0 []), 41)) else (if x10866.1.Page ≥ 2048 then (some ((T_api_Frame.mk 0 0 0 []), 41)) else (some (x10866.1, 0))))
def g70_j1 (p0 : (List Int)) (p1 : Int) (x10866 : (T_api_Frame × Int)) (x12211 : Bool) : Option (T_api_Frame × Int) :=
  if x12211 = true then (some ((T_api_Frame.mk 0 0 0 []), 40)) else ((g72 x10866.1.Kind).bind fun x12249 => (if ¬ (x12249 = true) then (g70_j2 p1 x10866 true) else ((getI (List.take 256 p0) 5).bind fun x12257 => (g70_j2 p1 x10866 (decide (x12257 ≠ 0))))))
def g70 (p0 : (List Int)) (p1 : Int) : Option (T_api_Frame × Int) :=
  if (p0.length : Int) ≠ 256 then (some ((T_api_Frame.mk 0 0 0 []), 1)) else (if 256 ≤ p0.length then ((g80 (List.take 256 p0)).bind fun x10866 => (if (List.take 256 p0) = (List.replicate 256 (0 : Int)) then (g70_j1 p0 p1 x10866 true) else (if (0 : Int) ≤ 4 ∧ 4 ≤ ((List.take 256 p0).length : Int) ∧ ((List.take 256 p0).length : Int) ≤ ((List.take 256 p0).length : Int) then ((g88 0).bind fun x12642 => ((cutI (List.take 256 p0) 4 ((List.take 256 p0).length : Int)).bind fun y12670 => ((g89 x12642 y12670).bind fun x12673 => ((g90 x12673).bind fun x12683 => (g70_j1 p0 p1 x10866 (decide (x10866.2 ≠ x12683))))))) else none))) else none)

-- incipit/frame.Want 
def g52_j1 (x12767 : (T_api_Frame × Int)) (x12811 : Bool) : Option (T_api_Frame × Int) :=
  if x12811 = true then (some ((T_api_Frame.mk 0 0 0 []), 42)) else (some (x12767.1, x12767.2))
def g52 (p0 : (List Int)) (p1 : Int) (p2 : (List Int)) : Option (T_api_Frame × Int) :=
  (g70 p0 p1).bind fun x12767 => (if x12767.2 = 0 then ((g65 p2 x12767.1.Kind).bind fun x12822 => (g52_j1 x12767 (decide (¬ (x12822 = true))))) else (g52_j1 x12767 false))

-- (*incipit/pack.Reader).U16 (('obj', 85, ('own', '.', '.')),)
def g33_1 (p0 : T_pack_Reader) : Option (Int × T_pack_Reader) :=
  (g55 p0 2).bind fun x13041 => (some (IntKind.u16.wrap x13041.1, x13041.2))

-- (*incipit/pack.Reader).Text (('obj', 85, ('ro', '.', '.')), '.')
def g35_j1 (p0 : T_pack_Reader) (x15590 : Int) : Option ((List Int) × T_pack_Reader) :=
  if x15590 ≠ 0 then ((g57_1 p0 x15590).bind fun x15606 => (some ([], x15606))) else ((getI p0.b 0).bind fun x15617 => ((g58_1 p0 (IntKind.i64.wrap (1 + (IntKind.i64.wrap x15617)))).bind fun x15625 => ((cutI x15625.1 1 (x15625.1.length : Int)).bind fun y15640 => (some (y15640, x15625.2)))))
def g35 (p0 : T_pack_Reader) (p1 : Int) : Option ((List Int) × T_pack_Reader) :=
  (g56_1 p0).bind fun x15554 => (if x15554 = true then (some ([], p0)) else (if p1 < 0 then (g35_j1 p0 1) else (if (p0.b.length : Int) = 0 then (g35_j1 p0 10) else ((getI p0.b 0).bind fun x15654 => (if (IntKind.i64.wrap x15654) > p1 then (g35_j1 p0 3) else ((getI p0.b 0).bind fun x15669 => (if (IntKind.i64.wrap x15669) ≥ (p0.b.length : Int) then (g35_j1 p0 10) else (g35_j1 p0 0))))))))

-- (*incipit/pack.Reader).Err (('obj', 85, ('ro', '.', '.')),)
def g36 (p0 : T_pack_Reader) : Option Int :=
  if ¬ (p0.made = true) then (some 2) else (some p0.err)

-- bytes.Equal 
def g24 (p0 : (List Int)) (p1 : (List Int)) : Option Bool :=
  some (decide ((strOfNums p0).toList = (strOfNums p1).toList))

-- incipit/head.Get 
def g14_l1B (p0 : Int) (p1 : (List Int)) (x15891 : (Int × T_pack_Reader)) (x17074 : (Int × T_pack_Reader)) (rec17839 : Int → (List Int) → Int → Bool → (List Int) → Option (T_api_Head × Int)) (x17425 : Int) (x17426 : (List Int)) (x17431 : Int) (x17432 : Bool) (x17433 : (List Int)) : Option (T_api_Head × Int) :=
  if x17425 < (if 3 < x17074.1 then 3 else x17074.1) then ((g33 (T_pack_Reader.mk x17426 x17431 x17432)).bind fun x18156 => ((appI x17433 ([IntKind.i64.wrap x18156.1] : List Int) 8).bind fun x18186 => (rec17839 (IntKind.u8.wrap (x17425 + 1)) x18156.2.b x18156.2.err x18156.2.made x18186))) else ((g35 (T_pack_Reader.mk x17426 x17431 x17432) 32).bind fun x18238 => ((g36 x18238.2).bind fun x18266 => (if x18266 ≠ 0 then (some ((T_api_Head.mk 0 0 ([] : List Int) []), 60)) else ((g17 (T_api_Head.mk p0 (IntKind.i64.wrap x15891.1) x17433 x18238.1)).bind fun x18338 => (if x18338.2 ≠ 0 then (some ((T_api_Head.mk 0 0 ([] : List Int) []), 60)) else ((g24 x18338.1 p1).bind fun x18377 => (if ¬ (x18377 = true) then (some ((T_api_Head.mk 0 0 ([] : List Int) []), 60)) else (some ((T_api_Head.mk p0 (IntKind.i64.wrap x15891.1) x17433 x18238.1), 0)))))))))
def g14_l1 (p0 : Int) (p1 : (List Int)) (x15891 : (Int × T_pack_Reader)) (x17074 : (Int × T_pack_Reader)) : Nat → Int → (List Int) → Int → Bool → (List Int) → Option (T_api_Head × Int)
  | 0, _, _, _, _, _ => none
  | n + 1, x17425, x17426, x17431, x17432, x17433 => g14_l1B p0 p1 x15891 x17074 (g14_l1 p0 p1 x15891 x17074 n) x17425 x17426 x17431 x17432 x17433
def g14 (p0 : Int) (p1 : (List Int)) : Option (T_api_Head × Int) :=
  (g32 p1).bind fun x15876 => ((g33_1 x15876).bind fun x15891 => ((g34 x15891.2).bind fun x17074 => (g14_l1 p0 p1 x15891 x17074 FUEL 0 x17074.2.b x17074.2.err x17074.2.made ([] : List Int))))

-- incipit/head.read 
def g30_j2 (p0 : Int) (x18689 : Int) (x18690 : (List Int)) (x18735 : Bool) : Option (T_api_Head × Bool) :=
  if x18735 = true then (some ((T_api_Head.mk 0 0 ([] : List Int) []), false)) else ((g14 x18689 x18690).bind fun x18742 => (if x18742.2 = 0 then (some (x18742.1, decide (x18742.1.Pages = p0))) else (some (x18742.1, false))))
def g30_j1 (p0 : Int) (p1 : Int) (x18687 : Int) (x18688 : Int) (x18689 : Int) (x18690 : (List Int)) (x18695 : Int) : Option (T_api_Head × Bool) :=
  if x18695 ≠ 0 then (g30_j2 p0 x18689 x18690 true) else ((g25 x18689).bind fun x18808 => (g30_j2 p0 x18689 x18690 (decide (x18808 ≠ p1))))
def g30_j3 (p0 : Int) (p1 : Int) (x18818 : (T_api_Frame × Int)) : Option (T_api_Head × Bool) :=
  g30_j1 p0 p1 x18818.1.Kind x18818.1.Page x18818.1.Epoch x18818.1.Data x18818.2
def g30 (p0 : Int) (p1 : Int) (p2 : (List Int)) : Option (T_api_Head × Bool) :=
  (g70 p2 p1).bind fun x18818 => (if x18818.2 = 0 then ((g65 ([1] : List Int) x18818.1.Kind).bind fun x18891 => (if ¬ (x18891 = true) then (g30_j1 p0 p1 0 0 0 [] 42) else (g30_j3 p0 p1 x18818))) else (g30_j3 p0 p1 x18818))

-- incipit/head.Choose 
def g10_j2 (x21789 : Int) (rec22006 : Int → Int → Int → Int → (List Int) → (List Int) → Option (T_api_Head × Int × Int)) (x22068 : Int) (x22069 : (List Int)) (x22074 : Bool) (x22075 : (List Int)) (x22080 : Int) (x22081 : Int) (x22082 : (List Int)) (x22087 : (List Int)) (x22092 : Bool) (x22093 : (List Int)) (x22098 : Int) (x22099 : Int) (x22100 : (List Int)) (x22105 : (List Int)) (x22110 : Bool) (x22111 : Int) (x22112 : Int) (x22113 : (List Int)) (x22118 : (List Int)) (x22123 : Bool) (x22124 : Bool) (x22125 : Bool) (x22126 : Bool) (x22127 : Bool) (x22128 : Int) (x22129 : Int) (x22130 : (List Int)) (x22135 : (List Int)) (x22140 : Int) (x22141 : Int) (x22142 : (List Int)) (x22147 : (List Int)) : Option (T_api_Head × Int × Int) :=
  rec22006 x22068 (IntKind.i64.wrap (x21789 + 1)) x22140 x22141 x22142 x22147
def g10_l1B (p0 : Int) (y21461 : (List (List Int))) (rec22006 : Int → Int → Int → Int → (List Int) → (List Int) → Option (T_api_Head × Int × Int)) (x21788 : Int) (x21789 : Int) (x21790 : Int) (x21791 : Int) (x21792 : (List Int)) (x21797 : (List Int)) : Option (T_api_Head × Int × Int) :=
  if x21789 < (y21461.length : Int) then ((getI y21461 x21789).bind fun x22156 => ((g30 p0 x21789 x22156).bind fun x22170 => (if ¬ (x22170.2 = true) then (g10_j2 x21789 rec22006 x21788 x22156 x22170.2 x22156 x22170.1.Epoch x22170.1.Pages x22170.1.Maps x22170.1.User x22170.2 x22156 x22170.1.Epoch x22170.1.Pages x22170.1.Maps x22170.1.User x22170.2 x22170.1.Epoch x22170.1.Pages x22170.1.Maps x22170.1.User x22170.2 x22170.2 (decide (¬ (x22170.2 = true))) true true x22170.1.Epoch x22170.1.Pages x22170.1.Maps x22170.1.User x21790 x21791 x21792 x21797) else (if x21788 ≥ 0 then (if x22170.1.Epoch ≤ x21790 then (g10_j2 x21789 rec22006 x21788 x22156 x22170.2 x22156 x22170.1.Epoch x22170.1.Pages x22170.1.Maps x22170.1.User x22170.2 x22156 x22170.1.Epoch x22170.1.Pages x22170.1.Maps x22170.1.User x22170.2 x22170.1.Epoch x22170.1.Pages x22170.1.Maps x22170.1.User x22170.2 x22170.2 (decide (¬ (x22170.2 = true))) false (decide (x22170.1.Epoch ≤ x21790)) x22170.1.Epoch x22170.1.Pages x22170.1.Maps x22170.1.User x21790 x21791 x21792 x21797) else (g10_j2 x21789 rec22006 x21789 x22156 x22170.2 x22156 x22170.1.Epoch x22170.1.Pages x22170.1.Maps x22170.1.User x22170.2 x22156 x22170.1.Epoch x22170.1.Pages x22170.1.Maps x22170.1.User x22170.2 x22170.1.Epoch x22170.1.Pages x22170.1.Maps x22170.1.User x22170.2 x22170.2 (decide (¬ (x22170.2 = true))) false (decide (x22170.1.Epoch ≤ x21790)) x22170.1.Epoch x22170.1.Pages x22170.1.Maps x22170.1.User x22170.1.Epoch x22170.1.Pages x22170.1.Maps x22170.1.User)) else (g10_j2 x21789 rec22006 x21789 x22156 x22170.2 x22156 x22170.1.Epoch x22170.1.Pages x22170.1.Maps x22170.1.User x22170.2 x22156 x22170.1.Epoch x22170.1.Pages x22170.1.Maps x22170.1.User x22170.2 x22170.1.Epoch x22170.1.Pages x22170.1.Maps x22170.1.User x22170.2 x22170.2 (decide (¬ (x22170.2 = true))) false false x22170.1.Epoch x22170.1.Pages x22170.1.Maps x22170.1.User x22170.1.Epoch x22170.1.Pages x22170.1.Maps x22170.1.User))))) else (if x21788 < 0 then (some ((T_api_Head.mk 0 0 [] []), 0, 60)) else (some ((T_api_Head.mk x21790 x21791 x21792 x21797), x21788, 0)))
def g10_l1 (p0 : Int) (y21461 : (List (List Int))) : Nat → Int → Int → Int → Int → (List Int) → (List Int) → Option (T_api_Head × Int × Int)
  | 0, _, _, _, _, _, _ => none
  | n + 1, x21788, x21789, x21790, x21791, x21792, x21797 => g10_l1B p0 y21461 (g10_l1 p0 y21461 n) x21788 x21789 x21790 x21791 x21792 x21797
def g10 (p0 : Int) (p1 : (List (List Int))) : Option (T_api_Head × Int × Int) :=
  (cutI p1 0 (if 2 < (p1.length : Int) then 2 else (p1.length : Int))).bind fun y21461 => (g10_l1 p0 y21461 FUEL (-1) 0 0 0 [] [])

-- incipit/incipitref06.Same (('agg', ('.', '.', 'ro', 'ro')), ('agg', ('.', '.', 'ro', 'ro')))
def g12_l2B (p0 : T_api_Head) (p1 : T_api_Head) (rec24515 : Int → Option Bool) (x24460 : Int) : Option Bool :=
  if x24460 < (p0.Maps.length : Int) then ((getI p0.Maps x24460).bind fun x24551 => ((getI p1.Maps x24460).bind fun x24560 => (if x24551 ≠ x24560 then (some false) else (rec24515 (IntKind.i64.wrap (x24460 + 1)))))) else (some true)
def g12_l2 (p0 : T_api_Head) (p1 : T_api_Head) : Nat → Int → Option Bool
  | 0, _ => none
  | n + 1, x24460 => g12_l2B p0 p1 (g12_l2 p0 p1 n) x24460
def g12_j1 (p0 : T_api_Head) (p1 : T_api_Head) (x24238 : Bool) : Option Bool :=
  if x24238 = true then (some false) else (g12_l2 p0 p1 FUEL 0)
def g12 (p0 : T_api_Head) (p1 : T_api_Head) : Option Bool :=
  if p0.Epoch ≠ p1.Epoch then (g12_j1 p0 p1 true) else (if p0.Pages ≠ p1.Pages then (g12_j1 p0 p1 true) else (if (p0.Maps.length : Int) ≠ (p1.Maps.length : Int) then (g12_j1 p0 p1 true) else (g12_j1 p0 p1 (decide ((strOfNums p0.User).toList ≠ (strOfNums p1.User).toList)))))

-- incipit/incipitlaw06.live 
def g9_j2 (x27942 : Bool) : Option Bool :=
  some x27942
def g9_j1 (x26238 : ((List Int) × Int)) (x27845 : Int) (x27846 : Int) (x27847 : (List Int)) (x27852 : (List Int)) (x27857 : Int) (x27858 : Int) : Option Bool :=
  if x26238.2 = 0 then (if x27858 = 0 then (if x27857 = 1 then ((g29).bind fun x27956 => ((g12 (T_api_Head.mk x27845 x27846 x27847 x27852) x27956).bind fun x27985 => (if x27985 = true then (if (x26238.1.length : Int) = 240 then ((cutI x26238.1 0 8).bind fun y27994 => ((g24 y27994 ([0, 64, 1, 0, 2, 1, 7, 0] : List Int)).bind fun x28013 => (g9_j2 x28013))) else (g9_j2 false)) else (g9_j2 false)))) else (g9_j2 false)) else (g9_j2 false)) else (g9_j2 false)
def g9_j4 (x29102 : Int) (rec29320 : Int → Int → Int → Int → (List Int) → (List Int) → Option Bool) (x29382 : Int) (x29383 : (List Int)) (x29388 : Bool) (x29390 : (List Int)) (x29395 : Int) (x29396 : Int) (x29397 : (List Int)) (x29402 : (List Int)) (x29407 : Bool) (x29408 : (List Int)) (x29413 : Int) (x29414 : Int) (x29415 : (List Int)) (x29420 : (List Int)) (x29425 : Bool) (x29426 : Int) (x29427 : Int) (x29428 : (List Int)) (x29433 : (List Int)) (x29438 : Bool) (x29439 : Bool) (x29440 : Bool) (x29441 : Bool) (x29442 : Bool) (x29443 : Int) (x29444 : Int) (x29445 : (List Int)) (x29450 : (List Int)) (x29455 : Int) (x29456 : Int) (x29457 : (List Int)) (x29462 : (List Int)) : Option Bool :=
  rec29320 x29382 (IntKind.i64.wrap (x29102 + 1)) x29455 x29456 x29457 x29462
def g9_l3B (x26238 : ((List Int) × Int)) (x26285 : (List Int)) (rec29320 : Int → Int → Int → Int → (List Int) → (List Int) → Option Bool) (x29101 : Int) (x29102 : Int) (x29103 : Int) (x29104 : Int) (x29105 : (List Int)) (x29110 : (List Int)) : Option Bool :=
  if x29102 < ((List.take ((if 2 < (([[], x26285] : List (List Int)).length : Int) then 2 else (([[], x26285] : List (List Int)).length : Int)).toNat) ([[], x26285] : List (List Int))).length : Int) then ((getI (List.take ((if 2 < (([[], x26285] : List (List Int)).length : Int) then 2 else (([[], x26285] : List (List Int)).length : Int)).toNat) ([[], x26285] : List (List Int))) x29102).bind fun x29471 => ((g30 64 x29102 x29471).bind fun x29485 => (if ¬ (x29485.2 = true) then (g9_j4 x29102 rec29320 x29101 x29471 x29485.2 x29471 x29485.1.Epoch x29485.1.Pages x29485.1.Maps x29485.1.User x29485.2 x29471 x29485.1.Epoch x29485.1.Pages x29485.1.Maps x29485.1.User x29485.2 x29485.1.Epoch x29485.1.Pages x29485.1.Maps x29485.1.User x29485.2 x29485.2 (decide (¬ (x29485.2 = true))) true true x29485.1.Epoch x29485.1.Pages x29485.1.Maps x29485.1.User x29103 x29104 x29105 x29110) else (if x29101 ≥ 0 then (if x29485.1.Epoch ≤ x29103 then (g9_j4 x29102 rec29320 x29101 x29471 x29485.2 x29471 x29485.1.Epoch x29485.1.Pages x29485.1.Maps x29485.1.User x29485.2 x29471 x29485.1.Epoch x29485.1.Pages x29485.1.Maps x29485.1.User x29485.2 x29485.1.Epoch x29485.1.Pages x29485.1.Maps x29485.1.User x29485.2 x29485.2 (decide (¬ (x29485.2 = true))) false (decide (x29485.1.Epoch ≤ x29103)) x29485.1.Epoch x29485.1.Pages x29485.1.Maps x29485.1.User x29103 x29104 x29105 x29110) else (g9_j4 x29102 rec29320 x29102 x29471 x29485.2 x29471 x29485.1.Epoch x29485.1.Pages x29485.1.Maps x29485.1.User x29485.2 x29471 x29485.1.Epoch x29485.1.Pages x29485.1.Maps x29485.1.User x29485.2 x29485.1.Epoch x29485.1.Pages x29485.1.Maps x29485.1.User x29485.2 x29485.2 (decide (¬ (x29485.2 = true))) false (decide (x29485.1.Epoch ≤ x29103)) x29485.1.Epoch x29485.1.Pages x29485.1.Maps x29485.1.User x29485.1.Epoch x29485.1.Pages x29485.1.Maps x29485.1.User)) else (g9_j4 x29102 rec29320 x29102 x29471 x29485.2 x29471 x29485.1.Epoch x29485.1.Pages x29485.1.Maps x29485.1.User x29485.2 x29471 x29485.1.Epoch x29485.1.Pages x29485.1.Maps x29485.1.User x29485.2 x29485.1.Epoch x29485.1.Pages x29485.1.Maps x29485.1.User x29485.2 x29485.2 (decide (¬ (x29485.2 = true))) false false x29485.1.Epoch x29485.1.Pages x29485.1.Maps x29485.1.User x29485.1.Epoch x29485.1.Pages x29485.1.Maps x29485.1.User))))) else (if x29101 < 0 then (g9_j1 x26238 0 0 [] [] 0 60) else (g9_j1 x26238 x29103 x29104 x29105 x29110 x29101 0))
def g9_l3 (x26238 : ((List Int) × Int)) (x26285 : (List Int)) : Nat → Int → Int → Int → Int → (List Int) → (List Int) → Option Bool
  | 0, _, _, _, _, _, _ => none
  | n + 1, x29101, x29102, x29103, x29104, x29105, x29110 => g9_l3B x26238 x26285 (g9_l3 x26238 x26285 n) x29101 x29102 x29103 x29104 x29105 x29110
def g9  : Option Bool :=
  (g29).bind fun x26209 => ((g17 x26209).bind fun x26238 => ((g29).bind fun x26256 => ((g27 x26256).bind fun x26285 => (if (0 : Int) ≤ (if 2 < (([[], x26285] : List (List Int)).length : Int) then 2 else (([[], x26285] : List (List Int)).length : Int)) ∧ (if 2 < (([[], x26285] : List (List Int)).length : Int) then 2 else (([[], x26285] : List (List Int)).length : Int)) ≤ (([[], x26285] : List (List Int)).length : Int) then (g9_l3 x26238 x26285 FUEL (-1) 0 0 0 [] []) else none))))

-- incipit/incipitlaw06.short 
def g16_l1B (p0 : (List T_api_Head)) (rec30494 : Int → Option Bool) (x30409 : Int) : Option Bool :=
  if x30409 < (p0.length : Int) then ((getI p0 x30409).bind fun x30539 => (if (x30539.Maps.length : Int) > 100 then (some false) else (if (x30539.User.length : Int) > 3000 then (some false) else (rec30494 (IntKind.i64.wrap (x30409 + 1)))))) else (some true)
def g16_l1 (p0 : (List T_api_Head)) : Nat → Int → Option Bool
  | 0, _ => none
  | n + 1, x30409 => g16_l1B p0 (g16_l1 p0 n) x30409
def g16 (p0 : (List T_api_Head)) : Option Bool :=
  g16_l1 p0 FUEL 0

-- slices.Equal[[]int,int] 
def g44_l1B (p0 : (List Int)) (p1 : (List Int)) (rec33041 : Int → Option Bool) (x32986 : Int) : Option Bool :=
  if x32986 < (p0.length : Int) then ((getI p0 x32986).bind fun x33077 => ((getI p1 x32986).bind fun x33086 => (if x33077 ≠ x33086 then (some false) else (rec33041 (IntKind.i64.wrap (x32986 + 1)))))) else (some true)
def g44_l1 (p0 : (List Int)) (p1 : (List Int)) : Nat → Int → Option Bool
  | 0, _ => none
  | n + 1, x32986 => g44_l1B p0 p1 (g44_l1 p0 p1 n) x32986
def g44 (p0 : (List Int)) (p1 : (List Int)) : Option Bool :=
  if (p0.length : Int) ≠ (p1.length : Int) then (some false) else (g44_l1 p0 p1 FUEL 0)

-- incipit/head.Same (('agg', ('.', '.', 'ro', 'ro')), ('agg', ('.', '.', 'ro', 'ro')))
def g23_j1 (x33176 : Bool) : Option Bool :=
  some x33176
def g23 (p0 : T_api_Head) (p1 : T_api_Head) : Option Bool :=
  if p0.Epoch = p1.Epoch then (if p0.Pages = p1.Pages then ((g44 p0.Maps p1.Maps).bind fun x33183 => (if x33183 = true then ((g24 p0.User p1.User).bind fun x33191 => (g23_j1 x33191)) else (g23_j1 false))) else (g23_j1 false)) else (g23_j1 false)

-- incipit/incipitlaw06.HeadBack (('agg', ('.', '.', 'ro', 'ro')), '.', 'ro')
def g6_j2 (p1 : Int) (p2 : (List Int)) : Option Bool :=
  (g14 p1 p2).bind fun x41521 => (if x41521.2 ≠ 0 then ((g23 x41521.1 (T_api_Head.mk 0 0 [] [])).bind fun x41557 => (some x41557)) else ((g17 x41521.1).bind fun x41564 => (if x41564.2 = 0 then ((g24 x41564.1 p2).bind fun x41591 => (some x41591)) else (some false))))
def g6_j4 (p1 : Int) (p2 : (List Int)) (x43324 : Bool) : Option Bool :=
  if x43324 = true then (some false) else (g6_j2 p1 p2)
def g6_j3 (p0 : T_api_Head) (p1 : Int) (p2 : (List Int)) (x41619 : (T_api_Head × Int)) (x43284 : Int) (x43285 : Int) (x43286 : (List Int)) (x43291 : (List Int)) (x43296 : Int) (x43297 : Int) : Option Bool :=
  if x41619.2 ≠ 0 then (g6_j4 p1 p2 true) else (if x43297 ≠ 0 then (g6_j4 p1 p2 true) else ((g23 x41619.1 p0).bind fun x43332 => (if ¬ (x43332 = true) then (g6_j4 p1 p2 true) else ((g23 (T_api_Head.mk x43284 x43285 x43286 x43291) p0).bind fun x43340 => (if ¬ (x43340 = true) then (g6_j4 p1 p2 true) else (g6_j4 p1 p2 (decide (x43296 ≠ (IntKind.i64.wrap (Int.tmod p0.Epoch 2))))))))))
def g6_j6 (x44428 : Int) (rec44646 : Int → Int → Int → Int → (List Int) → (List Int) → Option Bool) (x44708 : Int) (x44709 : (List Int)) (x44714 : Bool) (x44716 : (List Int)) (x44721 : Int) (x44722 : Int) (x44723 : (List Int)) (x44728 : (List Int)) (x44733 : Bool) (x44734 : (List Int)) (x44739 : Int) (x44740 : Int) (x44741 : (List Int)) (x44746 : (List Int)) (x44751 : Bool) (x44752 : Int) (x44753 : Int) (x44754 : (List Int)) (x44759 : (List Int)) (x44764 : Bool) (x44765 : Bool) (x44766 : Bool) (x44767 : Bool) (x44768 : Bool) (x44769 : Int) (x44770 : Int) (x44771 : (List Int)) (x44776 : (List Int)) (x44781 : Int) (x44782 : Int) (x44783 : (List Int)) (x44788 : (List Int)) : Option Bool :=
  rec44646 x44708 (IntKind.i64.wrap (x44428 + 1)) x44781 x44782 x44783 x44788
def g6_l5B (p0 : T_api_Head) (p1 : Int) (p2 : (List Int)) (x41619 : (T_api_Head × Int)) (y41738 : (List (List Int))) (rec44646 : Int → Int → Int → Int → (List Int) → (List Int) → Option Bool) (x44427 : Int) (x44428 : Int) (x44429 : Int) (x44430 : Int) (x44431 : (List Int)) (x44436 : (List Int)) : Option Bool :=
  if x44428 < ((List.take ((if 2 < (y41738.length : Int) then 2 else (y41738.length : Int)).toNat) y41738).length : Int) then ((getI (List.take ((if 2 < (y41738.length : Int) then 2 else (y41738.length : Int)).toNat) y41738) x44428).bind fun x44797 => ((g30 p0.Pages x44428 x44797).bind fun x44811 => (if ¬ (x44811.2 = true) then (g6_j6 x44428 rec44646 x44427 x44797 x44811.2 x44797 x44811.1.Epoch x44811.1.Pages x44811.1.Maps x44811.1.User x44811.2 x44797 x44811.1.Epoch x44811.1.Pages x44811.1.Maps x44811.1.User x44811.2 x44811.1.Epoch x44811.1.Pages x44811.1.Maps x44811.1.User x44811.2 x44811.2 (decide (¬ (x44811.2 = true))) true true x44811.1.Epoch x44811.1.Pages x44811.1.Maps x44811.1.User x44429 x44430 x44431 x44436) else (if x44427 ≥ 0 then (if x44811.1.Epoch ≤ x44429 then (g6_j6 x44428 rec44646 x44427 x44797 x44811.2 x44797 x44811.1.Epoch x44811.1.Pages x44811.1.Maps x44811.1.User x44811.2 x44797 x44811.1.Epoch x44811.1.Pages x44811.1.Maps x44811.1.User x44811.2 x44811.1.Epoch x44811.1.Pages x44811.1.Maps x44811.1.User x44811.2 x44811.2 (decide (¬ (x44811.2 = true))) false (decide (x44811.1.Epoch ≤ x44429)) x44811.1.Epoch x44811.1.Pages x44811.1.Maps x44811.1.User x44429 x44430 x44431 x44436) else (g6_j6 x44428 rec44646 x44428 x44797 x44811.2 x44797 x44811.1.Epoch x44811.1.Pages x44811.1.Maps x44811.1.User x44811.2 x44797 x44811.1.Epoch x44811.1.Pages x44811.1.Maps x44811.1.User x44811.2 x44811.1.Epoch x44811.1.Pages x44811.1.Maps x44811.1.User x44811.2 x44811.2 (decide (¬ (x44811.2 = true))) false (decide (x44811.1.Epoch ≤ x44429)) x44811.1.Epoch x44811.1.Pages x44811.1.Maps x44811.1.User x44811.1.Epoch x44811.1.Pages x44811.1.Maps x44811.1.User)) else (g6_j6 x44428 rec44646 x44428 x44797 x44811.2 x44797 x44811.1.Epoch x44811.1.Pages x44811.1.Maps x44811.1.User x44811.2 x44797 x44811.1.Epoch x44811.1.Pages x44811.1.Maps x44811.1.User x44811.2 x44811.1.Epoch x44811.1.Pages x44811.1.Maps x44811.1.User x44811.2 x44811.2 (decide (¬ (x44811.2 = true))) false false x44811.1.Epoch x44811.1.Pages x44811.1.Maps x44811.1.User x44811.1.Epoch x44811.1.Pages x44811.1.Maps x44811.1.User))))) else (if x44427 < 0 then (g6_j3 p0 p1 p2 x41619 0 0 [] [] 0 60) else (g6_j3 p0 p1 p2 x41619 x44429 x44430 x44431 x44436 x44427 0))
def g6_l5 (p0 : T_api_Head) (p1 : Int) (p2 : (List Int)) (x41619 : (T_api_Head × Int)) (y41738 : (List (List Int))) : Nat → Int → Int → Int → Int → (List Int) → (List Int) → Option Bool
  | 0, _, _, _, _, _, _ => none
  | n + 1, x44427, x44428, x44429, x44430, x44431, x44436 => g6_l5B p0 p1 p2 x41619 y41738 (g6_l5 p0 p1 p2 x41619 y41738 n) x44427 x44428 x44429 x44430 x44431 x44436
def g6_j1 (p0 : T_api_Head) (p1 : Int) (p2 : (List Int)) (x38245 : Bool) : Option Bool :=
  if x38245 = true then ((g9).bind fun x38249 => (some x38249)) else ((g17 p0).bind fun x41600 => (if x41600.2 = 0 then ((g14 p0.Epoch x41600.1).bind fun x41619 => ((repI 2 [] 24).bind fun x41646 => ((g25 p0.Epoch).bind fun x41706 => ((g27 p0).bind fun x41713 => ((getI x41646 (andI .i64 x41706 1)).bind fun x41727 => ((setI x41646 (andI .i64 x41706 1) x41713).bind fun y41738 => (if (0 : Int) ≤ (if 2 < (y41738.length : Int) then 2 else (y41738.length : Int)) ∧ (if 2 < (y41738.length : Int) then 2 else (y41738.length : Int)) ≤ (y41738.length : Int) then (g6_l5 p0 p1 p2 x41619 y41738 FUEL (-1) 0 0 0 [] []) else none))))))) else (g6_j2 p1 p2)))
def g6 (p0 : T_api_Head) (p1 : Int) (p2 : (List Int)) : Option Bool :=
  (g9).bind fun x44864 => (if ¬ (x44864 = true) then (g6_j1 p0 p1 p2 true) else ((g16 ([p0] : List T_api_Head)).bind fun x44881 => (if ¬ (x44881 = true) then (g6_j1 p0 p1 p2 true) else (g6_j1 p0 p1 p2 (decide ((p2.length : Int) > 3000))))))

end Go.Proofs.YtclnddebhjjpfaaDoor
