/- The shapes of the program's data. -/
import Derived.Test.YtefjbhogpgihaaaVXB
import Derived.Test.YtefjbhogpgihaaaTab
namespace Go.Proofs.Ytefjbhogpgihaaa
noncomputable section
open Go Go.SX Go.VX
set_option maxRecDepth 100000
set_option linter.unusedVariables false
structure T_api_Pair where
  Key : (List Int)
  Val : (List Int)
  deriving DecidableEq
def rp_T_api_Pair : Rp T_api_Pair := Rp.iso (fun x => (x.Key, x.Val)) (Rp.pair (rpSl (Rp.int .u8)) (rpSl (Rp.int .u8)))
structure T_api_Node where
  Leaf : Bool
  Pairs : (List T_api_Pair)
  Keys : (List (List Int))
  Kids : (List Int)
  deriving DecidableEq
def rp_T_api_Node : Rp T_api_Node := Rp.iso (fun x => (x.Leaf, x.Pairs, x.Keys, x.Kids)) (Rp.pair Rp.bool (Rp.pair (rpSl rp_T_api_Pair) (Rp.pair (rpSl (rpSl (Rp.int .u8))) (rpSl (Rp.int .i64)))))
def SS : Nat → Type
  | 0 => T_api_Pair
  | 1 => T_api_Node
  | _ => Unit
def si : (n : Nat) → SInf SS n
  | 0 => { cells := [(.ro (.int .u8)), (.ro (.int .u8))], to := fun (x : T_api_Pair) => (x.Key, x.Val), of := fun y => (⟨y.1, y.2⟩ : T_api_Pair) }
  | 1 => { cells := [.bl, (.ro (.st 0)), (.ro (.sl (.int .u8))), (.ro (.int .i64))], to := fun (x : T_api_Node) => (x.Leaf, x.Pairs, x.Keys, x.Kids), of := fun y => (⟨y.1, y.2.1, y.2.2.1, y.2.2.2⟩ : T_api_Node) }
  | _ + 2 => { cells := [], to := fun _ => (), of := fun _ => () }
def tcs : List (Option TC) := [none, none, some (.int .i64), some (.int .i64), some .bool, some (.int .u8), some (.int .u8), none, none, some .str, some .str, some .str, some (.int .u64), none, none, none, none, none, none, none, none, some (.int .i32), some (.sl (.st 0)), some (.sl (.sl (.int .u8))), some (.sl (.int .i64)), some (.st 1), some (.st 1), some (.sl (.int .u8)), none, none, none, none, none, none, none, none, none, none, none, none, none, none, none, none, none, some (.int .i64), none, some (.st 0), some (.st 0), none, none, none, none, none, none, none, none, none, none, none, none, none, none, none, none, none, none, some (.sl (.st 1)), none, none, none, none, none, none, none, none, none, none, none, none, none, none, some (.int .u16), none, none, none, none, none, none, none, none, none, none, none, none, none, none, none, none, none, none, none, none, none, none, none, none, none, none, none, none, none, none, none, some (.int .u64), none, none, none, none, none, none, none, none, none, none, none, none, none, none, some (.int .u64), none, none, none, none, none, none, none, none, none, none, none, some (.int .u32), some (.int .u8), some (.int .u8), none, none, some (.int .i32), some (.int .i32), none, none, none]
def cx : Cx SS := { T := TT, si := si, tc := fun t => match tcs[t]? with | some x => x | none => none, cmp := fun f => Nat.beq f 53 }
def rs0r : (n : Nat) → Rp (SS n)
  | 0 => rp_T_api_Pair
  | 1 => rp_T_api_Node
  | _ + 2 => ⟨0, fun _ _ cs _ => cs = [], by rintro I w cs x rfl; rfl, fun _ h => h⟩
def rs0 : RS SS := { r := rs0r, gl := cx.gl }
def code (f : Func) : Code := match f.body with | some c => c | none => .skip
end
end Go.Proofs.Ytefjbhogpgihaaa
