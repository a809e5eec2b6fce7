/- The shapes of the program's data. -/
import Derived.Test.YtofhmhbffdoiaaaDoorVXB
import Derived.Test.YtofhmhbffdoiaaaDoorTab
namespace Go.Proofs.YtofhmhbffdoiaaaDoor
noncomputable section
open Go Go.SX Go.VX
set_option maxRecDepth 100000
set_option linter.unusedVariables false
structure T_incipitlaw08_Op where
  Do : Int
  N : Int
  deriving DecidableEq
def rp_T_incipitlaw08_Op : Rp T_incipitlaw08_Op := Rp.iso (fun x => (x.Do, x.N)) (Rp.pair (Rp.int .i64) (Rp.int .i64))
def TAB0 : List Int := [0, 1, 56, 2, 57, 49, 28, 3, 61, 58, 42, 50, 38, 29, 17, 4, 62, 47, 59, 36, 45, 43, 51, 22, 53, 39, 33, 30, 24, 18, 12, 5, 63, 55, 48, 27, 60, 41, 37, 16, 46, 35, 44, 21, 52, 32, 23, 11, 54, 26, 40, 15, 34, 20, 31, 10, 25, 14, 19, 9, 13, 8, 7, 6]
def SS : Nat → Type
  | 0 => T_incipitlaw08_Op
  | _ => Unit
def si : (n : Nat) → SInf SS n
  | 0 => { cells := [(.int .i64), (.int .i64)], to := fun (x : T_incipitlaw08_Op) => (x.Do, x.N), of := fun y => (⟨y.1, y.2⟩ : T_incipitlaw08_Op) }
  | _ + 1 => { cells := [], to := fun _ => (), of := fun _ => () }
def tcs : List (Option TC) := [none, none, some (.int .i64), some (.int .i64), some .bool, some (.int .u8), some (.int .u8), none, none, some .str, some .str, some .str, some (.int .u64), none, none, none, none, none, none, none, none, some (.int .i32), some (.sl (.int .i64)), some (.sl (.st 0)), none, none, some (.int .i64), none, none, none, some (.st 0), some (.st 0), none, none, none, none, none, none, none, none, none, some (.sl (.sl (.int .u8))), none, some (.sl (.int .u8)), none, none, none, none, none, none, none, none, none, none, none, none, none, none, none, none, none, none, none, none, none, none, none, none, none, none, none, none, none, none, some (.int .u64), none, none, none, some (.sl (.int .u64)), none, none, some (.int .u64), none, none, none, none, none, none, none, none, none, none, none, none, none, none, some (.int .u32), some (.int .u8), some (.int .u8), none, none, some (.int .i32), some (.int .i32), none, none, none]
def cx : Cx SS := { T := TT, si := si, tc := fun t => match tcs[t]? with | some x => x | none => none, gl := fun g => bif Nat.beq g 0 then some (.u8, TAB0) else none }
def rs0r : (n : Nat) → Rp (SS n)
  | 0 => rp_T_incipitlaw08_Op
  | _ + 1 => ⟨0, fun _ _ cs _ => cs = [], by rintro I w cs x rfl; rfl, fun _ h => h⟩
def rs0 : RS SS := { r := rs0r, gl := cx.gl }
def code (f : Func) : Code := match f.body with | some c => c | none => .skip
end
end Go.Proofs.YtofhmhbffdoiaaaDoor
