/- What the functions compute, in plain words of data. -/
import Derived.Test.YtofhmhbffdoiaaaDoorH
namespace Go.Proofs.YtofhmhbffdoiaaaDoor
noncomputable section
open Go Go.SX Go.VX
set_option maxRecDepth 100000
set_option linter.unusedVariables false
/-! ### (*incipit/freemap.Map).made -/
def s45F : Option Unit :=
  some ()
def s45 : Option Unit := s45F
/-! ### (*incipit/freemap.Map).AllocRun -/
def s14F (n2 : Int) : Option (Unit × Unit) :=
  (s45).bind fun y1 =>
  some ((), ())
def s14 (n2 : Int) : Option (Unit × Unit) := s14F n2
/-! ### (*incipit/freemap.Map).Alloc -/
def s12F : Option (Unit × Unit) :=
  (s14 1).bind fun y2 =>
  some ((), ())
def s12 : Option (Unit × Unit) := s12F
/-! ### (*incipit/freemap.Map).Free -/
def s15F (n3 : Int) : Option Unit :=
  (s45).bind fun y5 =>
  some ()
def s15 (n3 : Int) : Option Unit := s15F n3
/-! ### (*incipit/freemap.Map).Commit -/
def s16F : Option Unit :=
  (s45).bind fun y7 =>
  some ()
def s16 : Option Unit := s16F
/-! ### (*incipit/freemap.Map).Abort -/
def s18F : Option Unit :=
  (s45).bind fun y9 =>
  some ()
def s18 : Option Unit := s18F
/-! ### (*incipit/freemap.Map).Has -/
def s32F (n4 : Int) : Option Unit :=
  (s45).bind fun y11 =>
  some ()
def s32 (n4 : Int) : Option Unit := s32F n4
/-! ### (*incipit/freemap.Map).Mine -/
def s33F (n5 : Int) : Option Unit :=
  (s45).bind fun y13 =>
  some ()
def s33 (n5 : Int) : Option Unit := s33F n5
/-! ### (*incipit/freemap.Map).Avail -/
def s29F : Option Unit :=
  (s45).bind fun y15 =>
  some ()
def s29 : Option Unit := s29F
/-! ### (*incipit/freemap.Map).Held -/
def s28F : Option Unit :=
  (s45).bind fun y17 =>
  some ()
def s28 : Option Unit := s28F
/-! ### (*incipit/freemap.Map).Taken -/
def s17F : Option Unit :=
  (s45).bind fun y19 =>
  some ()
def s17 : Option Unit := s17F
/-! ### (*incipit/freemap.Map).All -/
def s31F : Option ((Unit × Unit) × Unit) :=
  some (((), ()), ())
def s31 : Option ((Unit × Unit) × Unit) := s31F
/-! ### (*incipit/freemap.Map).All$1 -/
def s55F : Option (Tr Int Unit) :=
  (s45).bind fun y22 =>
  some (.done ())
def s55 : Option (Tr Int Unit) := s55F
/-! ### incipit/incipitlaw08.told -/
def s30_j2F (xs5 : List Int) : Option (Unit × (Unit × List Int)) :=
  some ((), ((), xs5))
def s30_j2 (xs5 : List Int) : Option (Unit × (Unit × List Int)) := s30_j2F xs5
def s30_r1B (j2 : (List Int) → Option (Unit × (Unit × List Int))) (r_r1 : Int → (List Int) → Option (Unit × (Unit × List Int))) (n11 : Int) (n10 : Int) (xs2 : List Int) : Option (Unit × (Unit × List Int)) :=
  if (xs2.length : Int) ≥ n10 then
  j2 xs2
  else
  (appI xs2 ([n11] : List Int) 8).bind fun xs3 =>
  r_r1 n10 xs3
def s30_r1D (j2 : (List Int) → Option (Unit × (Unit × List Int))) (n12 : Int) (xs4 : List Int) : Option (Unit × (Unit × List Int)) :=
  j2 xs4
def s30_r1 (tr_ : (Tr Int Unit)) (n10 : Int) (xs2 : List Int) : Option (Unit × (Unit × List Int)) := iterT (fun (d_ : Unit) (y_ : (Int × Unit × (List Int))) => s30_r1D s30_j2 y_.1 y_.2.2) (fun (v_ : Int) (t_ : Unit) (r_ : (Int × Unit × (List Int)) → Option (Unit × (Unit × List Int))) (y_ : (Int × Unit × (List Int))) => s30_r1B s30_j2 (fun n10 xs2 => r_ (n10, (), xs2)) v_ y_.1 y_.2.2) tr_ (n10, (), xs2)
def s30_j1F (r1 : (Tr Int Unit) → Int → (List Int) → Option (Unit × (Unit × List Int))) (n7 : Int) : Option (Unit × (Unit × List Int)) :=
  (s55).bind fun tr1 =>
  r1 tr1 n7 []
def s30_j1 (n7 : Int) : Option (Unit × (Unit × List Int)) := s30_j1F s30_r1 n7
def s30F (j1 : Int → Option (Unit × (Unit × List Int))) (n6 : Int) : Option (Unit × (Unit × List Int)) :=
  j1 n6
def s30 (n6 : Int) : Option (Unit × (Unit × List Int)) := s30F s30_j1 n6
/-! ### (*incipit/freemap.Map).Clone -/
def s37F : Option Unit :=
  (s45).bind fun y24 =>
  some ()
def s37 : Option Unit := s37F
/-! ### (*incipit/freemap.Map).made -/
def s45_v2F : Option (Unit × (Unit × Unit × Unit × Unit)) :=
  some ((), ((), (), (), ()))
def s45_v2 : Option (Unit × (Unit × Unit × Unit × Unit)) := s45_v2F
/-! ### (*incipit/freemap.Map).AllocRun -/
def s14_v2F (n14 : Int) : Option ((Unit × Unit) × (Unit × Unit × Unit × Unit)) :=
  (s45_v2).bind fun y26 =>
  some (((), ()), ((), (), (), ()))
def s14_v2 (n14 : Int) : Option ((Unit × Unit) × (Unit × Unit × Unit × Unit)) := s14_v2F n14
/-! ### (*incipit/freemap.Map).Alloc -/
def s12_v2F : Option ((Unit × Unit) × (Unit × Unit × Unit × Unit)) :=
  (s14_v2 1).bind fun y27 =>
  some (((), ()), ((), (), (), ()))
def s12_v2 : Option ((Unit × Unit) × (Unit × Unit × Unit × Unit)) := s12_v2F
/-! ### (*incipit/freemap.Map).Free -/
def s15_v2F (n15 : Int) : Option (Unit × (Unit × Unit × Unit × Unit)) :=
  (s45_v2).bind fun y30 =>
  some ((), ((), (), (), ()))
def s15_v2 (n15 : Int) : Option (Unit × (Unit × Unit × Unit × Unit)) := s15_v2F n15
/-! ### (*incipit/freemap.Map).Commit -/
def s16_v2F : Option (Unit × (Unit × Unit × Unit × Unit)) :=
  (s45_v2).bind fun y32 =>
  some ((), ((), (), (), ()))
def s16_v2 : Option (Unit × (Unit × Unit × Unit × Unit)) := s16_v2F
/-! ### (*incipit/freemap.Map).Abort -/
def s18_v2F : Option (Unit × (Unit × Unit × Unit × Unit)) :=
  (s45_v2).bind fun y34 =>
  some ((), ((), (), (), ()))
def s18_v2 : Option (Unit × (Unit × Unit × Unit × Unit)) := s18_v2F
/-! ### (*incipit/freemap.Map).Has -/
def s32_v2F (n16 : Int) : Option (Unit × (Unit × Unit × Unit × Unit)) :=
  (s45_v2).bind fun y36 =>
  some ((), ((), (), (), ()))
def s32_v2 (n16 : Int) : Option (Unit × (Unit × Unit × Unit × Unit)) := s32_v2F n16
/-! ### (*incipit/freemap.Map).Mine -/
def s33_v2F (n17 : Int) : Option (Unit × (Unit × Unit × Unit × Unit)) :=
  (s45_v2).bind fun y38 =>
  some ((), ((), (), (), ()))
def s33_v2 (n17 : Int) : Option (Unit × (Unit × Unit × Unit × Unit)) := s33_v2F n17
/-! ### (*incipit/freemap.Map).Avail -/
def s29_v2F : Option (Unit × (Unit × Unit × Unit × Unit)) :=
  (s45_v2).bind fun y40 =>
  some ((), ((), (), (), ()))
def s29_v2 : Option (Unit × (Unit × Unit × Unit × Unit)) := s29_v2F
/-! ### (*incipit/freemap.Map).Held -/
def s28_v2F : Option (Unit × (Unit × Unit × Unit × Unit)) :=
  (s45_v2).bind fun y42 =>
  some ((), ((), (), (), ()))
def s28_v2 : Option (Unit × (Unit × Unit × Unit × Unit)) := s28_v2F
/-! ### (*incipit/freemap.Map).Taken -/
def s17_v2F : Option (Unit × (Unit × Unit × Unit × Unit)) :=
  (s45_v2).bind fun y44 =>
  some ((), ((), (), (), ()))
def s17_v2 : Option (Unit × (Unit × Unit × Unit × Unit)) := s17_v2F
/-! ### (*incipit/freemap.Map).All -/
def s31_v2F : Option ((Unit × Unit) × ((Unit × Unit × Unit × Unit) × Unit)) :=
  some (((), ()), (((), (), (), ()), ()))
def s31_v2 : Option ((Unit × Unit) × ((Unit × Unit × Unit × Unit) × Unit)) := s31_v2F
/-! ### (*incipit/freemap.Map).All$1 -/
def s55_v2F : Option (Tr Int (Unit × (Unit × Unit × Unit × Unit))) :=
  (s45_v2).bind fun y47 =>
  some (.done ((), ((), (), (), ())))
def s55_v2 : Option (Tr Int (Unit × (Unit × Unit × Unit × Unit))) := s55_v2F
/-! ### incipit/incipitlaw08.told -/
def s30_v2_j2F (xs11 : List Int) : Option (Unit × (Unit × (Unit × Unit × Unit × Unit) × List Int)) :=
  some ((), ((), ((), (), (), ()), xs11))
def s30_v2_j2 (xs11 : List Int) : Option (Unit × (Unit × (Unit × Unit × Unit × Unit) × List Int)) := s30_v2_j2F xs11
def s30_v2_r1B (j2 : (List Int) → Option (Unit × (Unit × (Unit × Unit × Unit × Unit) × List Int))) (r_r1 : Int → (List Int) → Option (Unit × (Unit × (Unit × Unit × Unit × Unit) × List Int))) (n23 : Int) (n22 : Int) (xs8 : List Int) : Option (Unit × (Unit × (Unit × Unit × Unit × Unit) × List Int)) :=
  if (xs8.length : Int) ≥ n22 then
  j2 xs8
  else
  (appI xs8 ([n23] : List Int) 8).bind fun xs9 =>
  r_r1 n22 xs9
def s30_v2_r1D (j2 : (List Int) → Option (Unit × (Unit × (Unit × Unit × Unit × Unit) × List Int))) (n24 : Int) (xs10 : List Int) : Option (Unit × (Unit × (Unit × Unit × Unit × Unit) × List Int)) :=
  j2 xs10
def s30_v2_r1 (tr_ : (Tr Int (Unit × (Unit × Unit × Unit × Unit)))) (n22 : Int) (xs8 : List Int) : Option (Unit × (Unit × (Unit × Unit × Unit × Unit) × List Int)) := iterT (fun (d_ : (Unit × (Unit × Unit × Unit × Unit))) (y_ : (Int × Unit × (List Int))) => s30_v2_r1D s30_v2_j2 y_.1 y_.2.2) (fun (v_ : Int) (t_ : (Unit × (Unit × Unit × Unit × Unit))) (r_ : (Int × Unit × (List Int)) → Option (Unit × (Unit × (Unit × Unit × Unit × Unit) × List Int))) (y_ : (Int × Unit × (List Int))) => s30_v2_r1B s30_v2_j2 (fun n22 xs8 => r_ (n22, (), xs8)) v_ y_.1 y_.2.2) tr_ (n22, (), xs8)
def s30_v2_j1F (r1 : (Tr Int (Unit × (Unit × Unit × Unit × Unit))) → Int → (List Int) → Option (Unit × (Unit × (Unit × Unit × Unit × Unit) × List Int))) (n19 : Int) : Option (Unit × (Unit × (Unit × Unit × Unit × Unit) × List Int)) :=
  (s55_v2).bind fun tr2 =>
  r1 tr2 n19 []
def s30_v2_j1 (n19 : Int) : Option (Unit × (Unit × (Unit × Unit × Unit × Unit) × List Int)) := s30_v2_j1F s30_v2_r1 n19
def s30_v2F (j1 : Int → Option (Unit × (Unit × (Unit × Unit × Unit × Unit) × List Int))) (n18 : Int) : Option (Unit × (Unit × (Unit × Unit × Unit × Unit) × List Int)) :=
  j1 n18
def s30_v2 (n18 : Int) : Option (Unit × (Unit × (Unit × Unit × Unit × Unit) × List Int)) := s30_v2F s30_v2_j1 n18
/-! ### (*incipit/freemap.Map).Clone -/
def s37_v2F : Option (Unit × (Unit × Unit × Unit × Unit)) :=
  (s45_v2).bind fun y49 =>
  some ((), ((), (), (), ()))
def s37_v2 : Option (Unit × (Unit × Unit × Unit × Unit)) := s37_v2F
/-! ### incipit/freemap.may -/
def s38F (n27 : Int) : Option Bool :=
  if n27 ≥ 8 then
  some (decide (n27 ≤ 2048))
  else
  some false
def s38 (n27 : Int) : Option Bool := s38F n27
/-! ### incipit/freemap.list -/
def s39_j1F (r_l1 : Int → Int → (List Int) → Int → Int → Option Bool) (n33 : Int) (n34 : Int) (xs16 : List Int) (n35 : Int) (n36 : Int) (b4 : Bool) : Option Bool :=
  if b4 = true then
  some false
  else
  r_l1 n33 n34 xs16 n35 (IntKind.i64.wrap (n36 + 1))
def s39_j1 (r_l1 : Int → Int → (List Int) → Int → Int → Option Bool) (n33 : Int) (n34 : Int) (xs16 : List Int) (n35 : Int) (n36 : Int) (b4 : Bool) : Option Bool := s39_j1F r_l1 n33 n34 xs16 n35 n36 b4
def s39_l1B (j1 : Int → Int → (List Int) → Int → Int → Bool → Option Bool) (n29 : Int) (n30 : Int) (xs15 : List Int) (n31 : Int) (n32 : Int) : Option Bool :=
  if n32 < n31 then
  (getI xs15 n32).bind fun x1 =>
  if x1 ≤ n30 then
  j1 n29 x1 xs15 n31 n32 true
  else
  j1 n29 x1 xs15 n31 n32 (decide (x1 ≥ n29))
  else
  some true
def s39_l1 (n_ : Nat) (n29 : Int) (n30 : Int) (xs15 : List Int) (n31 : Int) (n32 : Int) : Option Bool := iterL (fun (r_ : (Int × Int × (List Int) × Int × Int) → Option Bool) (x : (Int × Int × (List Int) × Int × Int)) => s39_l1B (s39_j1 (fun n29 n30 xs15 n31 n32 => r_ (n29, n30, xs15, n31, n32))) x.1 x.2.1 x.2.2.1 x.2.2.2.1 x.2.2.2.2) n_ (n29, n30, xs15, n31, n32)
def s39F (l1 : Int → Int → (List Int) → Int → Int → Option Bool) (n28 : Int) (xs14 : List Int) : Option Bool :=
  l1 n28 (-1) xs14 (xs14.length : Int) 0
def s39 (n28 : Int) (xs14 : List Int) : Option Bool := s39F (s39_l1 FUEL) n28 xs14
/-! ### incipit/extent.New -/
def s40_j1F (n39 : Int) (b7 : Bool) : Option ((Unit × Unit) ⊕ ((Unit × Unit) × ((Int × Unit) × List Int))) :=
  if b7 = true then
  some (.inl ((), ()))
  else
  if (64 : Int) ≠ 0 then
  (repI (IntKind.i64.wrap (Int.tdiv (IntKind.i64.wrap ((IntKind.i64.wrap (n39 + 64)) - 1)) 64)) (0 : Int) 8).bind fun xs18 =>
  some (.inr (((), ()), ((n39, ()), xs18)))
  else none
def s40_j1 (n39 : Int) (b7 : Bool) : Option ((Unit × Unit) ⊕ ((Unit × Unit) × ((Int × Unit) × List Int))) := s40_j1F n39 b7
def s40F (j1 : Int → Bool → Option ((Unit × Unit) ⊕ ((Unit × Unit) × ((Int × Unit) × List Int)))) (n38 : Int) : Option ((Unit × Unit) ⊕ ((Unit × Unit) × ((Int × Unit) × List Int))) :=
  if n38 < 1 then
  j1 n38 true
  else
  j1 n38 (decide (n38 > 2048))
def s40 (n38 : Int) : Option ((Unit × Unit) ⊕ ((Unit × Unit) × ((Int × Unit) × List Int))) := s40F s40_j1 n38
def s40_v2 (n38 : Int) : Option ((Unit × Unit) × ((Int × Unit) × List Int)) := (s40 n38).bind sndR
/-! ### (*incipit/extent.Set).none -/
def s72F (n48 : Int) (xs24 : List Int) : Option (Bool × ((Int × Unit) × List Int)) :=
  some (decide (n48 = 0), ((n48, ()), xs24))
def s72 (n48 : Int) (xs24 : List Int) : Option (Bool × ((Int × Unit) × List Int)) := s72F n48 xs24
/-! ### (*incipit/extent.Set).may -/
def s66_j1F (b9 : Bool) (n50 : Int) (xs26 : List Int) : Option (Int × ((Int × Unit) × List Int)) :=
  if b9 = true then
  some (1, ((n50, ()), xs26))
  else
  some (0, ((n50, ()), xs26))
def s66_j1 (b9 : Bool) (n50 : Int) (xs26 : List Int) : Option (Int × ((Int × Unit) × List Int)) := s66_j1F b9 n50 xs26
def s66F (j1 : Bool → Int → (List Int) → Option (Int × ((Int × Unit) × List Int))) (n46 : Int) (n47 : Int) (xs23 : List Int) : Option (Int × ((Int × Unit) × List Int)) :=
  (s72 n47 xs23).bind fun y52 =>
  (some y52.1).bind fun b8 =>
  (some y52.2.1.1).bind fun n49 =>
  (some y52.2.2).bind fun xs25 =>
  if b8 = true then
  some (2, ((n49, ()), xs25))
  else
  if n46 < 0 then
  j1 true n49 xs25
  else
  j1 (decide (n46 ≥ n49)) n49 xs25
def s66 (n46 : Int) (n47 : Int) (xs23 : List Int) : Option (Int × ((Int × Unit) × List Int)) := s66F s66_j1 n46 n47 xs23
/-! ### incipit/extent.bit -/
def s67F (n57 : Int) : Option Int :=
  if (64 : Int) ≠ 0 then
  if (0 : Int) ≤ (IntKind.u64.wrap (Int.tmod n57 64)) then
  some (shlI .u64 1 (IntKind.u64.wrap (Int.tmod n57 64)))
  else none
  else none
def s67 (n57 : Int) : Option Int := s67F n57
/-! ### (*incipit/extent.Set).Has -/
def s56F (n53 : Int) (n54 : Int) (xs28 : List Int) : Option (Bool × ((Int × Unit) × List Int)) :=
  (s66 n53 n54 xs28).bind fun y54 =>
  (some y54.1).bind fun n55 =>
  (some y54.2.1.1).bind fun n56 =>
  (some y54.2.2).bind fun xs29 =>
  if n55 = 0 then
  if (64 : Int) ≠ 0 then
  if 0 ≤ (IntKind.i64.wrap (Int.tdiv n53 64)) ∧ (IntKind.i64.wrap (Int.tdiv n53 64)) < (xs29.length : Int) then
  (getI xs29 (IntKind.i64.wrap (Int.tdiv n53 64))).bind fun x3 =>
  (s67 n53).bind fun n58 =>
  some (decide ((andI .u64 x3 n58) ≠ 0), ((n56, ()), xs29))
  else none
  else none
  else
  some (false, ((n56, ()), xs29))
def s56 (n53 : Int) (n54 : Int) (xs28 : List Int) : Option (Bool × ((Int × Unit) × List Int)) := s56F n53 n54 xs28
/-! ### (*incipit/extent.Set).Add -/
def s41F (n44 : Int) (n45 : Int) (xs22 : List Int) : Option (Int × ((Int × Unit) × List Int)) :=
  (s66 n44 n45 xs22).bind fun y53 =>
  (some y53.1).bind fun n51 =>
  (some y53.2.1.1).bind fun n52 =>
  (some y53.2.2).bind fun xs27 =>
  if n51 ≠ 0 then
  some (n51, ((n52, ()), xs27))
  else
  (s56 n44 n52 xs27).bind fun y55 =>
  (some y55.1).bind fun b10 =>
  (some y55.2.1.1).bind fun n59 =>
  (some y55.2.2).bind fun xs30 =>
  if b10 = true then
  some (70, ((n59, ()), xs30))
  else
  if (64 : Int) ≠ 0 then
  if 0 ≤ (IntKind.i64.wrap (Int.tdiv n44 64)) ∧ (IntKind.i64.wrap (Int.tdiv n44 64)) < (xs30.length : Int) then
  (getI xs30 (IntKind.i64.wrap (Int.tdiv n44 64))).bind fun x4 =>
  (s67 n44).bind fun n60 =>
  if 0 ≤ (IntKind.i64.wrap (Int.tdiv n44 64)) ∧ (IntKind.i64.wrap (Int.tdiv n44 64)) < (xs30.length : Int) then
  (setI xs30 (IntKind.i64.wrap (Int.tdiv n44 64)) (orI .u64 x4 n60)).bind fun xs31 =>
  some (0, ((n59, ()), xs31))
  else none
  else none
  else none
def s41 (n44 : Int) (n45 : Int) (xs22 : List Int) : Option (Int × ((Int × Unit) × List Int)) := s41F n44 n45 xs22
/-! ### slices.Clone[[]uint64,uint64] -/
def s75_v2F (xs41 : List Int) : Option (Unit × List Int) :=
  (appI ([] : List Int) xs41 8).bind fun xs42 =>
  some ((), xs42)
def s75_v2 (xs41 : List Int) : Option (Unit × List Int) := s75_v2F xs41
/-! ### slices.Clone[[]uint64,uint64] -/
def s75_v3F (xs43 : List Int) : Option (Unit × List Int) :=
  some ((), [])
def s75_v3 (xs43 : List Int) : Option (Unit × List Int) := s75_v3F xs43
/-! ### slices.Clone[[]uint64,uint64] -/
def s75 (xs : List Int) : Option (Unit × List Int) := if xs.length = 0 then s75_v3 [] else s75_v2 xs
/-! ### (*incipit/extent.Set).Clone -/
def s65F (n69 : Int) (xs37 : List Int) : Option ((Unit × ((Int × Unit) × List Int)) ⊕ (Unit × ((Int × Unit) × List Int × (Int × Unit) × List Int))) :=
  (s72 n69 xs37).bind fun y58 =>
  (some y58.1).bind fun b11 =>
  (some y58.2.1.1).bind fun n70 =>
  (some y58.2.2).bind fun xs38 =>
  if b11 = true then
  some (.inl ((), ((n70, ()), xs38)))
  else
  (s75 xs38).bind fun y59 =>
  (some y59.2).bind fun xs45 =>
  some (.inr ((), ((n70, ()), xs38, (n70, ()), xs45)))
def s65 (n69 : Int) (xs37 : List Int) : Option ((Unit × ((Int × Unit) × List Int)) ⊕ (Unit × ((Int × Unit) × List Int × (Int × Unit) × List Int))) := s65F n69 xs37
def s65_v2 (n69 : Int) (xs37 : List Int) : Option (Unit × ((Int × Unit) × List Int × (Int × Unit) × List Int)) := (s65 n69 xs37).bind sndR
/-! ### (*incipit/extent.Set).Not -/
def s42_j1F (n77 : Int) (xs52 : List Int) (n78 : Int) (xs53 : List Int) : Option (Unit × ((Int × Unit) × List Int × (Int × Unit) × List Int)) :=
  some ((), ((n77, ()), xs52, (n78, ()), xs53))
def s42_j1 (n77 : Int) (xs52 : List Int) (n78 : Int) (xs53 : List Int) : Option (Unit × ((Int × Unit) × List Int × (Int × Unit) × List Int)) := s42_j1F n77 xs52 n78 xs53
def s42_l1B (r_l1 : Int → Int → Int → (List Int) → Int → (List Int) → Option (Unit × ((Int × Unit) × List Int × (Int × Unit) × List Int))) (j1 : Int → (List Int) → Int → (List Int) → Option (Unit × ((Int × Unit) × List Int × (Int × Unit) × List Int))) (n73 : Int) (n74 : Int) (n75 : Int) (xs48 : List Int) (n76 : Int) (xs49 : List Int) : Option (Unit × ((Int × Unit) × List Int × (Int × Unit) × List Int)) :=
  if n74 < n73 then
  if 0 ≤ n74 ∧ n74 < (xs49.length : Int) then
  (getI xs49 n74).bind fun x6 =>
  if 0 ≤ n74 ∧ n74 < (xs49.length : Int) then
  (setI xs49 n74 (cplI .u64 x6)).bind fun xs50 =>
  r_l1 n73 (IntKind.i64.wrap (n74 + 1)) n75 xs48 n76 xs50
  else none
  else none
  else
  if (64 : Int) ≠ 0 then
  if (Int.tmod n76 64) > 0 then
  if 0 ≤ (IntKind.i64.wrap ((xs49.length : Int) - 1)) ∧ (IntKind.i64.wrap ((xs49.length : Int) - 1)) < (xs49.length : Int) then
  (getI xs49 (IntKind.i64.wrap ((xs49.length : Int) - 1))).bind fun x7 =>
  if (0 : Int) ≤ (IntKind.u64.wrap (Int.tmod n76 64)) then
  if 0 ≤ (IntKind.i64.wrap ((xs49.length : Int) - 1)) ∧ (IntKind.i64.wrap ((xs49.length : Int) - 1)) < (xs49.length : Int) then
  (setI xs49 (IntKind.i64.wrap ((xs49.length : Int) - 1)) (andI .u64 x7 (IntKind.u64.wrap ((shlI .u64 1 (IntKind.u64.wrap (Int.tmod n76 64))) - 1)))).bind fun xs51 =>
  j1 n75 xs48 n76 xs51
  else none
  else none
  else none
  else
  j1 n75 xs48 n76 xs49
  else none
def s42_l1 (n_ : Nat) (n73 : Int) (n74 : Int) (n75 : Int) (xs48 : List Int) (n76 : Int) (xs49 : List Int) : Option (Unit × ((Int × Unit) × List Int × (Int × Unit) × List Int)) := iterL (fun (r_ : ((Unit × Int × Int) × ((Int × Unit) × (List Int) × (Int × Unit) × (List Int))) → Option (Unit × ((Int × Unit) × List Int × (Int × Unit) × List Int))) (x : ((Unit × Int × Int) × ((Int × Unit) × (List Int) × (Int × Unit) × (List Int)))) => s42_l1B (fun n73 n74 n75 xs48 n76 xs49 => r_ (((), n73, n74), ((n75, ()), xs48, (n76, ()), xs49))) s42_j1 x.1.2.1 x.1.2.2 x.2.1.1 x.2.2.1 x.2.2.2.1.1 x.2.2.2.2) n_ (((), n73, n74), ((n75, ()), xs48, (n76, ()), xs49))
def s42F (l1 : Int → Int → Int → (List Int) → Int → (List Int) → Option (Unit × ((Int × Unit) × List Int × (Int × Unit) × List Int))) (n68 : Int) (xs36 : List Int) : Option (Unit × ((Int × Unit) × List Int × (Int × Unit) × List Int)) :=
  (s65_v2 n68 xs36).bind fun y60 =>
  (some y60.2.1.1).bind fun n71 =>
  (some y60.2.2.1).bind fun xs46 =>
  (some y60.2.2.2.1.1).bind fun n72 =>
  (some y60.2.2.2.2).bind fun xs47 =>
  l1 (xs47.length : Int) 0 n71 xs46 n72 xs47
def s42 (n68 : Int) (xs36 : List Int) : Option (Unit × ((Int × Unit) × List Int × (Int × Unit) × List Int)) := s42F (s42_l1 FUEL) n68 xs36
/-! ### (*incipit/extent.Set).Size -/
def s50F (n86 : Int) (xs61 : List Int) : Option (Int × ((Int × Unit) × List Int)) :=
  (s72 n86 xs61).bind fun y63 =>
  (some y63.1).bind fun b12 =>
  (some y63.2.1.1).bind fun n87 =>
  (some y63.2.2).bind fun xs62 =>
  if b12 = true then
  some (0, ((n87, ()), xs62))
  else
  some (n87, ((n87, ()), xs62))
def s50 (n86 : Int) (xs61 : List Int) : Option (Int × ((Int × Unit) × List Int)) := s50F n86 xs61
/-! ### (*incipit/freemap.Map).none -/
def s68F (n84 : Int) (n85 : Int) (xs59 : List Int) (xs60 : List Int) : Option (Unit × ((Unit × Unit × Unit × Unit) × (Int × Unit) × (Int × Unit) × List Int × List Int × (Int × Unit) × List Int)) :=
  (s50 n84 xs59).bind fun y64 =>
  (some y64.1).bind fun n88 =>
  (some y64.2.1.1).bind fun n89 =>
  (some y64.2.2).bind fun xs63 =>
  (s40_v2 n88).bind fun y65 =>
  (some y65.2.1.1).bind fun n90 =>
  (some y65.2.2).bind fun xs64 =>
  some ((), (((), (), (), ()), (n89, ()), (n85, ()), xs63, xs60, (n90, ()), xs64))
def s68 (n84 : Int) (n85 : Int) (xs59 : List Int) (xs60 : List Int) : Option (Unit × ((Unit × Unit × Unit × Unit) × (Int × Unit) × (Int × Unit) × List Int × List Int × (Int × Unit) × List Int)) := s68F n84 n85 xs59 xs60
/-! ### (*incipit/freemap.Map).settle -/
def s43F (n81 : Int) (xs56 : List Int) : Option (Unit × ((Unit × Unit × Unit × Unit) × (Int × Unit) × List Int × (Int × Unit) × (Int × Unit) × (Int × Unit) × List Int × List Int × List Int)) :=
  (s65_v2 n81 xs56).bind fun y62 =>
  (some y62.2.1.1).bind fun n82 =>
  (some y62.2.2.1).bind fun xs57 =>
  (some y62.2.2.2.1.1).bind fun n83 =>
  (some y62.2.2.2.2).bind fun xs58 =>
  (s68 n82 n83 xs57 xs58).bind fun y66 =>
  (some y66.2.2.1.1).bind fun n91 =>
  (some y66.2.2.2.1.1).bind fun n92 =>
  (some y66.2.2.2.2.1).bind fun xs65 =>
  (some y66.2.2.2.2.2.1).bind fun xs66 =>
  (some y66.2.2.2.2.2.2.1.1).bind fun n93 =>
  (some y66.2.2.2.2.2.2.2).bind fun xs67 =>
  (s68 n91 n92 xs65 xs66).bind fun y67 =>
  (some y67.2.2.1.1).bind fun n94 =>
  (some y67.2.2.2.1.1).bind fun n95 =>
  (some y67.2.2.2.2.1).bind fun xs68 =>
  (some y67.2.2.2.2.2.1).bind fun xs69 =>
  (some y67.2.2.2.2.2.2.1.1).bind fun n96 =>
  (some y67.2.2.2.2.2.2.2).bind fun xs70 =>
  some ((), (((), (), (), ()), (n94, ()), xs68, (n93, ()), (n96, ()), (n95, ()), xs67, xs70, xs69))
def s43 (n81 : Int) (xs56 : List Int) : Option (Unit × ((Unit × Unit × Unit × Unit) × (Int × Unit) × List Int × (Int × Unit) × (Int × Unit) × (Int × Unit) × List Int × List Int × List Int)) := s43F n81 xs56
/-! ### incipit/freemap.Open -/
def s10_l1B (r_l1 : (List Int) → Int → Int → Int → (List Int) → Option ((Unit × Unit) ⊕ ((Unit × Unit) × ((Unit × Unit × Unit × Unit) × (Int × Unit) × (Int × Unit) × (Int × Unit) × (Int × Unit) × List Int × List Int × List Int × List Int)))) (xs33 : List Int) (n63 : Int) (n64 : Int) (n65 : Int) (xs34 : List Int) : Option ((Unit × Unit) ⊕ ((Unit × Unit) × ((Unit × Unit × Unit × Unit) × (Int × Unit) × (Int × Unit) × (Int × Unit) × (Int × Unit) × List Int × List Int × List Int × List Int))) :=
  if n64 < n63 then
  (getI xs33 n64).bind fun x5 =>
  (s41 x5 n65 xs34).bind fun y57 =>
  (some y57.1).bind fun n66 =>
  (some y57.2.1.1).bind fun n67 =>
  (some y57.2.2).bind fun xs35 =>
  r_l1 xs33 n63 (IntKind.i64.wrap (n64 + 1)) n67 xs35
  else
  (s42 n65 xs34).bind fun y61 =>
  (some y61.2.1.1).bind fun n79 =>
  (some y61.2.2.1).bind fun xs54 =>
  (some y61.2.2.2.1.1).bind fun n80 =>
  (some y61.2.2.2.2).bind fun xs55 =>
  (s43 n80 xs55).bind fun y68 =>
  (some y68.2.2.1.1).bind fun n97 =>
  (some y68.2.2.2.1).bind fun xs71 =>
  (some y68.2.2.2.2.1.1).bind fun n98 =>
  (some y68.2.2.2.2.2.1.1).bind fun n99 =>
  (some y68.2.2.2.2.2.2.1.1).bind fun n100 =>
  (some y68.2.2.2.2.2.2.2.1).bind fun xs72 =>
  (some y68.2.2.2.2.2.2.2.2.1).bind fun xs73 =>
  (some y68.2.2.2.2.2.2.2.2.2).bind fun xs74 =>
  some (.inr (((), ()), (((), (), (), ()), (n97, ()), (n98, ()), (n99, ()), (n100, ()), xs71, xs72, xs73, xs74)))
def s10_l1 (n_ : Nat) (xs33 : List Int) (n63 : Int) (n64 : Int) (n65 : Int) (xs34 : List Int) : Option ((Unit × Unit) ⊕ ((Unit × Unit) × ((Unit × Unit × Unit × Unit) × (Int × Unit) × (Int × Unit) × (Int × Unit) × (Int × Unit) × List Int × List Int × List Int × List Int))) := iterL (fun (r_ : ((Unit × (List Int) × Int × Int) × ((Int × Unit) × (List Int))) → Option ((Unit × Unit) ⊕ ((Unit × Unit) × ((Unit × Unit × Unit × Unit) × (Int × Unit) × (Int × Unit) × (Int × Unit) × (Int × Unit) × List Int × List Int × List Int × List Int)))) (x : ((Unit × (List Int) × Int × Int) × ((Int × Unit) × (List Int)))) => s10_l1B (fun xs33 n63 n64 n65 xs34 => r_ (((), xs33, n63, n64), ((n65, ()), xs34))) x.1.2.1 x.1.2.2.1 x.1.2.2.2 x.2.1.1 x.2.2) n_ (((), xs33, n63, n64), ((n65, ()), xs34))
def s10_j1F (l1 : (List Int) → Int → Int → Int → (List Int) → Option ((Unit × Unit) ⊕ ((Unit × Unit) × ((Unit × Unit × Unit × Unit) × (Int × Unit) × (Int × Unit) × (Int × Unit) × (Int × Unit) × List Int × List Int × List Int × List Int)))) (n37 : Int) (xs17 : List Int) (b6 : Bool) : Option ((Unit × Unit) ⊕ ((Unit × Unit) × ((Unit × Unit × Unit × Unit) × (Int × Unit) × (Int × Unit) × (Int × Unit) × (Int × Unit) × List Int × List Int × List Int × List Int))) :=
  if b6 = true then
  some (.inl ((), ()))
  else
  (s40_v2 n37).bind fun y51 =>
  (some y51.2.1.1).bind fun n40 =>
  (some y51.2.2).bind fun xs19 =>
  l1 xs17 (xs17.length : Int) 0 n40 xs19
def s10_j1 (n37 : Int) (xs17 : List Int) (b6 : Bool) : Option ((Unit × Unit) ⊕ ((Unit × Unit) × ((Unit × Unit × Unit × Unit) × (Int × Unit) × (Int × Unit) × (Int × Unit) × (Int × Unit) × List Int × List Int × List Int × List Int))) := s10_j1F (s10_l1 FUEL) n37 xs17 b6
def s10F (j1 : Int → (List Int) → Bool → Option ((Unit × Unit) ⊕ ((Unit × Unit) × ((Unit × Unit × Unit × Unit) × (Int × Unit) × (Int × Unit) × (Int × Unit) × (Int × Unit) × List Int × List Int × List Int × List Int)))) (n26 : Int) (xs13 : List Int) : Option ((Unit × Unit) ⊕ ((Unit × Unit) × ((Unit × Unit × Unit × Unit) × (Int × Unit) × (Int × Unit) × (Int × Unit) × (Int × Unit) × List Int × List Int × List Int × List Int))) :=
  (s38 n26).bind fun b3 =>
  if ¬ b3 = true then
  j1 n26 xs13 true
  else
  (s39 n26 xs13).bind fun b5 =>
  j1 n26 xs13 (decide (¬ b5 = true))
def s10 (n26 : Int) (xs13 : List Int) : Option ((Unit × Unit) ⊕ ((Unit × Unit) × ((Unit × Unit × Unit × Unit) × (Int × Unit) × (Int × Unit) × (Int × Unit) × (Int × Unit) × List Int × List Int × List Int × List Int))) := s10F s10_j1 n26 xs13
/-! ### (*incipit/freemap.Map).made -/
def s45_v3F (n124 : Int) (n125 : Int) (n126 : Int) (n127 : Int) (xs95 : List Int) (xs96 : List Int) (xs97 : List Int) (xs98 : List Int) : Option (Unit × ((Unit × Unit × Unit × Unit) × (Int × Unit) × (Int × Unit) × (Int × Unit) × (Int × Unit) × List Int × List Int × List Int × List Int)) :=
  some ((), (((), (), (), ()), (n124, ()), (n125, ()), (n126, ()), (n127, ()), xs95, xs96, xs97, xs98))
def s45_v3 (n124 : Int) (n125 : Int) (n126 : Int) (n127 : Int) (xs95 : List Int) (xs96 : List Int) (xs97 : List Int) (xs98 : List Int) : Option (Unit × ((Unit × Unit × Unit × Unit) × (Int × Unit) × (Int × Unit) × (Int × Unit) × (Int × Unit) × List Int × List Int × List Int × List Int)) := s45_v3F n124 n125 n126 n127 xs95 xs96 xs97 xs98
/-! ### (*incipit/extent.Set).Runs -/
def s69F (n137 : Int) (xs107 : List Int) : Option ((Unit × Unit) × ((Int × Unit) × List Int × Unit)) :=
  some (((), ()), ((n137, ()), xs107, ()))
def s69 (n137 : Int) (xs107 : List Int) : Option ((Unit × Unit) × ((Int × Unit) × List Int × Unit)) := s69F n137 xs107
/-! ### math/bits.TrailingZeros64 -/
def s77F (n156 : Int) : Option Int :=
  if n156 = 0 then
  some 64
  else
  if (0 : Int) ≤ 58 then
  (getI TAB0 (shrI .u64 (IntKind.u64.wrap ((andI .u64 n156 (IntKind.u64.wrap (0 - n156))) * 285870213051353865)) 58)).bind fun x9 =>
  some (IntKind.i64.wrap x9)
  else none
def s77 (n156 : Int) : Option Int := s77F n156
/-! ### (*incipit/extent.Set).First -/
def s71_l1B (r_l1 : Int → Int → Int → (List Int) → Option (Int × ((Int × Unit) × List Int))) (n153 : Int) (n154 : Int) (n155 : Int) (xs119 : List Int) : Option (Int × ((Int × Unit) × List Int)) :=
  if n154 < (xs119.length : Int) then
  if 0 ≤ n154 ∧ n154 < (xs119.length : Int) then
  (getI xs119 n154).bind fun x8 =>
  if (andI .u64 x8 n153) ≠ 0 then
  (s77 (andI .u64 x8 n153)).bind fun n157 =>
  some ((IntKind.i64.wrap ((IntKind.i64.wrap (n154 * 64)) + n157)), ((n155, ()), xs119))
  else
  r_l1 18446744073709551615 (IntKind.i64.wrap (n154 + 1)) n155 xs119
  else none
  else
  some (-1, ((n155, ()), xs119))
def s71_l1 (n_ : Nat) (n153 : Int) (n154 : Int) (n155 : Int) (xs119 : List Int) : Option (Int × ((Int × Unit) × List Int)) := iterL (fun (r_ : ((Unit × Int × Int) × ((Int × Unit) × (List Int))) → Option (Int × ((Int × Unit) × List Int))) (x : ((Unit × Int × Int) × ((Int × Unit) × (List Int)))) => s71_l1B (fun n153 n154 n155 xs119 => r_ (((), n153, n154), ((n155, ()), xs119))) x.1.2.1 x.1.2.2 x.2.1.1 x.2.2) n_ (((), n153, n154), ((n155, ()), xs119))
def s71_j1F (l1 : Int → Int → Int → (List Int) → Option (Int × ((Int × Unit) × List Int))) (n151 : Int) (b16 : Bool) (n152 : Int) (xs118 : List Int) : Option (Int × ((Int × Unit) × List Int)) :=
  if b16 = true then
  some (-1, ((n152, ()), xs118))
  else
  if (64 : Int) ≠ 0 then
  if (0 : Int) ≤ (IntKind.u64.wrap (Int.tmod (if (0 : Int) > n151 then 0 else n151) 64)) then
  if (64 : Int) ≠ 0 then
  l1 (shlI .u64 18446744073709551615 (IntKind.u64.wrap (Int.tmod (if (0 : Int) > n151 then 0 else n151) 64))) (IntKind.i64.wrap (Int.tdiv (if (0 : Int) > n151 then 0 else n151) 64)) n152 xs118
  else none
  else none
  else none
def s71_j1 (n151 : Int) (b16 : Bool) (n152 : Int) (xs118 : List Int) : Option (Int × ((Int × Unit) × List Int)) := s71_j1F (s71_l1 FUEL) n151 b16 n152 xs118
def s71F (j1 : Int → Bool → Int → (List Int) → Option (Int × ((Int × Unit) × List Int))) (n148 : Int) (n149 : Int) (xs116 : List Int) : Option (Int × ((Int × Unit) × List Int)) :=
  (s72 n149 xs116).bind fun y77 =>
  (some y77.1).bind fun b15 =>
  (some y77.2.1.1).bind fun n150 =>
  (some y77.2.2).bind fun xs117 =>
  if b15 = false then
  j1 n148 (decide (n148 ≥ n150)) n150 xs117
  else
  j1 n148 true n150 xs117
def s71 (n148 : Int) (n149 : Int) (xs116 : List Int) : Option (Int × ((Int × Unit) × List Int)) := s71F s71_j1 n148 n149 xs116
/-! ### (*incipit/extent.Set).Runs$1 -/
def s76_j2F (r_l1 : Int → Int → (List Int) → Int → (List Int) → Option (Tr (Int × Int) (Unit × (Int × Unit) × List Int))) (n169 : Int) (b17 : Bool) (n170 : Int) (xs126 : List Int) (n171 : Int) (xs127 : List Int) : Option (Tr (Int × Int) (Unit × (Int × Unit) × List Int)) :=
  if b17 = true then
  some (.done ((), (n170, ()), xs126))
  else
  (s71 n169 n170 xs126).bind fun y80 =>
  (some y80.1).bind fun n172 =>
  (some y80.2.1.1).bind fun n173 =>
  (some y80.2.2).bind fun xs128 =>
  r_l1 n172 n173 xs128 n171 xs127
def s76_j2 (r_l1 : Int → Int → (List Int) → Int → (List Int) → Option (Tr (Int × Int) (Unit × (Int × Unit) × List Int))) (n169 : Int) (b17 : Bool) (n170 : Int) (xs126 : List Int) (n171 : Int) (xs127 : List Int) : Option (Tr (Int × Int) (Unit × (Int × Unit) × List Int)) := s76_j2F r_l1 n169 b17 n170 xs126 n171 xs127
def s76_j1F (j2 : Int → Bool → Int → (List Int) → Int → (List Int) → Option (Tr (Int × Int) (Unit × (Int × Unit) × List Int))) (n165 : Int) (n166 : Int) (n167 : Int) (xs124 : List Int) (n168 : Int) (xs125 : List Int) : Option (Tr (Int × Int) (Unit × (Int × Unit) × List Int)) :=
  consT (n165, (IntKind.i64.wrap (n166 - n165))) (
  j2 n166 true n167 xs124 n168 xs125)
  (j2 n166 false n167 xs124 n168 xs125)
def s76_j1 (r_l1 : Int → Int → (List Int) → Int → (List Int) → Option (Tr (Int × Int) (Unit × (Int × Unit) × List Int))) (n165 : Int) (n166 : Int) (n167 : Int) (xs124 : List Int) (n168 : Int) (xs125 : List Int) : Option (Tr (Int × Int) (Unit × (Int × Unit) × List Int)) := s76_j1F (s76_j2 r_l1) n165 n166 n167 xs124 n168 xs125
def s76_l1B (j1 : Int → Int → Int → (List Int) → Int → (List Int) → Option (Tr (Int × Int) (Unit × (Int × Unit) × List Int))) (n160 : Int) (n161 : Int) (xs121 : List Int) (n162 : Int) (xs122 : List Int) : Option (Tr (Int × Int) (Unit × (Int × Unit) × List Int)) :=
  if n160 ≥ 0 then
  (s71 n160 n162 xs122).bind fun y79 =>
  (some y79.1).bind fun n163 =>
  (some y79.2.1.1).bind fun n164 =>
  (some y79.2.2).bind fun xs123 =>
  if n163 < 0 then
  j1 n160 n161 n161 xs121 n164 xs123
  else
  j1 n160 n163 n161 xs121 n164 xs123
  else
  some (.done ((), (n161, ()), xs121))
def s76_l1 (n_ : Nat) (n160 : Int) (n161 : Int) (xs121 : List Int) (n162 : Int) (xs122 : List Int) : Option (Tr (Int × Int) (Unit × (Int × Unit) × List Int)) := iterL (fun (r_ : ((Unit × Unit × Unit × Int) × (Unit × (Int × Unit) × (List Int) × (Int × Unit) × (List Int))) → Option (Tr (Int × Int) (Unit × (Int × Unit) × List Int))) (x : ((Unit × Unit × Unit × Int) × (Unit × (Int × Unit) × (List Int) × (Int × Unit) × (List Int)))) => s76_l1B (s76_j1 (fun n160 n161 xs121 n162 xs122 => r_ (((), (), (), n160), ((), (n161, ()), xs121, (n162, ()), xs122)))) x.1.2.2.2 x.2.2.1.1 x.2.2.2.1 x.2.2.2.2.1.1 x.2.2.2.2.2) n_ (((), (), (), n160), ((), (n161, ()), xs121, (n162, ()), xs122))
def s76F (l1 : Int → Int → (List Int) → Int → (List Int) → Option (Tr (Int × Int) (Unit × (Int × Unit) × List Int))) (n145 : Int) (xs113 : List Int) : Option (Tr (Int × Int) (Unit × (Int × Unit) × List Int)) :=
  (s42 n145 xs113).bind fun y76 =>
  (some y76.2.1.1).bind fun n146 =>
  (some y76.2.2.1).bind fun xs114 =>
  (some y76.2.2.2.1.1).bind fun n147 =>
  (some y76.2.2.2.2).bind fun xs115 =>
  (s71 0 n146 xs114).bind fun y78 =>
  (some y78.1).bind fun n158 =>
  (some y78.2.1.1).bind fun n159 =>
  (some y78.2.2).bind fun xs120 =>
  l1 n158 n159 xs120 n147 xs115
def s76 (n145 : Int) (xs113 : List Int) : Option (Tr (Int × Int) (Unit × (Int × Unit) × List Int)) := s76F (s76_l1 FUEL) n145 xs113
/-! ### (*incipit/freemap.Map).row -/
def s46_j2F (n188 : Int) (n189 : Int) (n190 : Int) (n191 : Int) (xs137 : List Int) (xs138 : List Int) (xs139 : List Int) (xs140 : List Int) (n192 : Int) : Option (Int × ((Unit × Unit × Unit × Unit) × (Int × Unit) × (Int × Unit) × (Int × Unit) × (Int × Unit) × List Int × List Int × List Int × List Int)) :=
  some (n192, (((), (), (), ()), (n188, ()), (n189, ()), (n190, ()), (n191, ()), xs137, xs138, xs139, xs140))
def s46_j2 (n188 : Int) (n189 : Int) (n190 : Int) (n191 : Int) (xs137 : List Int) (xs138 : List Int) (xs139 : List Int) (xs140 : List Int) (n192 : Int) : Option (Int × ((Unit × Unit × Unit × Unit) × (Int × Unit) × (Int × Unit) × (Int × Unit) × (Int × Unit) × List Int × List Int × List Int × List Int)) := s46_j2F n188 n189 n190 n191 xs137 xs138 xs139 xs140 n192
def s46_r1B (r_r1 : Int → Int → Int → (List Int) → (List Int) → (List Int) → Int → Int → Option (Int × ((Unit × Unit × Unit × Unit) × (Int × Unit) × (Int × Unit) × (Int × Unit) × (Int × Unit) × List Int × List Int × List Int × List Int))) (j2 : Int → Int → Int → Int → (List Int) → (List Int) → (List Int) → (List Int) → Int → Option (Int × ((Unit × Unit × Unit × Unit) × (Int × Unit) × (Int × Unit) × (Int × Unit) × (Int × Unit) × List Int × List Int × List Int × List Int))) (n180 : Int) (n181 : Int) (n179 : Int) (xs132 : List Int) (n174 : Int) (n175 : Int) (n176 : Int) (xs129 : List Int) (xs130 : List Int) (xs131 : List Int) (n177 : Int) (n178 : Int) : Option (Int × ((Unit × Unit × Unit × Unit) × (Int × Unit) × (Int × Unit) × (Int × Unit) × (Int × Unit) × List Int × List Int × List Int × List Int)) :=
  if n181 < n177 then
  r_r1 n174 n175 n176 xs129 xs130 xs131 n177 n178
  else
  j2 n179 n174 n175 n176 xs132 xs129 xs130 xs131 n180
def s46_r1D (j2 : Int → Int → Int → Int → (List Int) → (List Int) → (List Int) → (List Int) → Int → Option (Int × ((Unit × Unit × Unit × Unit) × (Int × Unit) × (Int × Unit) × (Int × Unit) × (Int × Unit) × List Int × List Int × List Int × List Int))) (n182 : Int) (xs133 : List Int) (n183 : Int) (n184 : Int) (n185 : Int) (xs134 : List Int) (xs135 : List Int) (xs136 : List Int) (n186 : Int) (n187 : Int) : Option (Int × ((Unit × Unit × Unit × Unit) × (Int × Unit) × (Int × Unit) × (Int × Unit) × (Int × Unit) × List Int × List Int × List Int × List Int)) :=
  j2 n182 n183 n184 n185 xs133 xs134 xs135 xs136 n187
def s46_r1 (tr_ : (Tr (Int × Int) (Unit × (Int × Unit) × (List Int)))) (n174 : Int) (n175 : Int) (n176 : Int) (xs129 : List Int) (xs130 : List Int) (xs131 : List Int) (n177 : Int) (n178 : Int) : Option (Int × ((Unit × Unit × Unit × Unit) × (Int × Unit) × (Int × Unit) × (Int × Unit) × (Int × Unit) × List Int × List Int × List Int × List Int)) := iterT (fun (d_ : (Unit × (Int × Unit) × (List Int))) (y_ : ((Unit × Unit × Unit × Unit) × (Int × Unit) × (Int × Unit) × (Int × Unit) × (List Int) × (List Int) × (List Int) × Int × Int)) => s46_r1D s46_j2 d_.2.1.1 d_.2.2 y_.2.1.1 y_.2.2.1.1 y_.2.2.2.1.1 y_.2.2.2.2.1 y_.2.2.2.2.2.1 y_.2.2.2.2.2.2.1 y_.2.2.2.2.2.2.2.1 y_.2.2.2.2.2.2.2.2) (fun (v_ : (Int × Int)) (t_ : (Unit × (Int × Unit) × (List Int))) (r_ : ((Unit × Unit × Unit × Unit) × (Int × Unit) × (Int × Unit) × (Int × Unit) × (List Int) × (List Int) × (List Int) × Int × Int) → Option (Int × ((Unit × Unit × Unit × Unit) × (Int × Unit) × (Int × Unit) × (Int × Unit) × (Int × Unit) × List Int × List Int × List Int × List Int))) (y_ : ((Unit × Unit × Unit × Unit) × (Int × Unit) × (Int × Unit) × (Int × Unit) × (List Int) × (List Int) × (List Int) × Int × Int)) => s46_r1B (fun n174 n175 n176 xs129 xs130 xs131 n177 n178 => r_ (((), (), (), ()), (n174, ()), (n175, ()), (n176, ()), xs129, xs130, xs131, n177, n178)) s46_j2 v_.1 v_.2 t_.2.1.1 t_.2.2 y_.2.1.1 y_.2.2.1.1 y_.2.2.2.1.1 y_.2.2.2.2.1 y_.2.2.2.2.2.1 y_.2.2.2.2.2.2.1 y_.2.2.2.2.2.2.2.1 y_.2.2.2.2.2.2.2.2) tr_ (((), (), (), ()), (n174, ()), (n175, ()), (n176, ()), xs129, xs130, xs131, n177, n178)
def s46_j1F (r1 : (Tr (Int × Int) (Unit × (Int × Unit) × (List Int))) → Int → Int → Int → (List Int) → (List Int) → (List Int) → Int → Int → Option (Int × ((Unit × Unit × Unit × Unit) × (Int × Unit) × (Int × Unit) × (Int × Unit) × (Int × Unit) × List Int × List Int × List Int × List Int))) (n139 : Int) (n140 : Int) (n141 : Int) (n142 : Int) (xs109 : List Int) (xs110 : List Int) (xs111 : List Int) (xs112 : List Int) (n143 : Int) (n144 : Int) : Option (Int × ((Unit × Unit × Unit × Unit) × (Int × Unit) × (Int × Unit) × (Int × Unit) × (Int × Unit) × List Int × List Int × List Int × List Int)) :=
  (s76 n139 xs109).bind fun tr3 =>
  r1 tr3 n140 n141 n142 xs110 xs111 xs112 n143 n144
def s46_j1 (n139 : Int) (n140 : Int) (n141 : Int) (n142 : Int) (xs109 : List Int) (xs110 : List Int) (xs111 : List Int) (xs112 : List Int) (n143 : Int) (n144 : Int) : Option (Int × ((Unit × Unit × Unit × Unit) × (Int × Unit) × (Int × Unit) × (Int × Unit) × (Int × Unit) × List Int × List Int × List Int × List Int)) := s46_j1F s46_r1 n139 n140 n141 n142 xs109 xs110 xs111 xs112 n143 n144
def s46F (j1 : Int → Int → Int → Int → (List Int) → (List Int) → (List Int) → (List Int) → Int → Int → Option (Int × ((Unit × Unit × Unit × Unit) × (Int × Unit) × (Int × Unit) × (Int × Unit) × (Int × Unit) × List Int × List Int × List Int × List Int))) (n132 : Int) (n133 : Int) (n134 : Int) (n135 : Int) (n136 : Int) (xs103 : List Int) (xs104 : List Int) (xs105 : List Int) (xs106 : List Int) : Option (Int × ((Unit × Unit × Unit × Unit) × (Int × Unit) × (Int × Unit) × (Int × Unit) × (Int × Unit) × List Int × List Int × List Int × List Int)) :=
  (s69 n133 xs103).bind fun y75 =>
  (some y75.2.1.1).bind fun n138 =>
  (some y75.2.2.1).bind fun xs108 =>
  j1 n138 n134 n135 n136 xs108 xs104 xs105 xs106 n132 (-1)
def s46 (n132 : Int) (n133 : Int) (n134 : Int) (n135 : Int) (n136 : Int) (xs103 : List Int) (xs104 : List Int) (xs105 : List Int) (xs106 : List Int) : Option (Int × ((Unit × Unit × Unit × Unit) × (Int × Unit) × (Int × Unit) × (Int × Unit) × (Int × Unit) × List Int × List Int × List Int × List Int)) := s46F s46_j1 n132 n133 n134 n135 n136 xs103 xs104 xs105 xs106
/-! ### (*incipit/extent.Set).Drop -/
def s48F (n211 : Int) (n212 : Int) (xs153 : List Int) : Option (Int × ((Int × Unit) × List Int)) :=
  (s66 n211 n212 xs153).bind fun y82 =>
  (some y82.1).bind fun n213 =>
  (some y82.2.1.1).bind fun n214 =>
  (some y82.2.2).bind fun xs154 =>
  if n213 ≠ 0 then
  some (n213, ((n214, ()), xs154))
  else
  (s56 n211 n214 xs154).bind fun y83 =>
  (some y83.1).bind fun b18 =>
  (some y83.2.1.1).bind fun n215 =>
  (some y83.2.2).bind fun xs155 =>
  if ¬ b18 = true then
  some (4, ((n215, ()), xs155))
  else
  if (64 : Int) ≠ 0 then
  if 0 ≤ (IntKind.i64.wrap (Int.tdiv n211 64)) ∧ (IntKind.i64.wrap (Int.tdiv n211 64)) < (xs155.length : Int) then
  (getI xs155 (IntKind.i64.wrap (Int.tdiv n211 64))).bind fun x10 =>
  (s67 n211).bind fun n216 =>
  if 0 ≤ (IntKind.i64.wrap (Int.tdiv n211 64)) ∧ (IntKind.i64.wrap (Int.tdiv n211 64)) < (xs155.length : Int) then
  (setI xs155 (IntKind.i64.wrap (Int.tdiv n211 64)) (andNotI .u64 x10 n216)).bind fun xs156 =>
  some (0, ((n215, ()), xs156))
  else none
  else none
  else none
def s48 (n211 : Int) (n212 : Int) (xs153 : List Int) : Option (Int × ((Int × Unit) × List Int)) := s48F n211 n212 xs153
/-! ### (*incipit/freemap.Map).take -/
def s47_l1B (r_l1 : Int → Int → Int → Int → Int → Int → Int → (List Int) → (List Int) → (List Int) → (List Int) → Option (Unit × ((Unit × Unit × Unit × Unit) × (Int × Unit) × (Int × Unit) × (Int × Unit) × (Int × Unit) × List Int × List Int × List Int × List Int))) (n204 : Int) (n205 : Int) (n206 : Int) (n207 : Int) (n208 : Int) (n209 : Int) (n210 : Int) (xs149 : List Int) (xs150 : List Int) (xs151 : List Int) (xs152 : List Int) : Option (Unit × ((Unit × Unit × Unit × Unit) × (Int × Unit) × (Int × Unit) × (Int × Unit) × (Int × Unit) × List Int × List Int × List Int × List Int)) :=
  if n206 < n205 then
  (s48 (IntKind.i64.wrap (n204 + n206)) n207 xs149).bind fun y84 =>
  (some y84.1).bind fun n217 =>
  (some y84.2.1.1).bind fun n218 =>
  (some y84.2.2).bind fun xs157 =>
  (s41 (IntKind.i64.wrap (n204 + n206)) n209 xs151).bind fun y85 =>
  (some y85.1).bind fun n219 =>
  (some y85.2.1.1).bind fun n220 =>
  (some y85.2.2).bind fun xs158 =>
  r_l1 n204 n205 (IntKind.i64.wrap (n206 + 1)) n218 n208 n220 n210 xs157 xs150 xs158 xs152
  else
  some ((), (((), (), (), ()), (n207, ()), (n208, ()), (n209, ()), (n210, ()), xs149, xs150, xs151, xs152))
def s47_l1 (n_ : Nat) (n204 : Int) (n205 : Int) (n206 : Int) (n207 : Int) (n208 : Int) (n209 : Int) (n210 : Int) (xs149 : List Int) (xs150 : List Int) (xs151 : List Int) (xs152 : List Int) : Option (Unit × ((Unit × Unit × Unit × Unit) × (Int × Unit) × (Int × Unit) × (Int × Unit) × (Int × Unit) × List Int × List Int × List Int × List Int)) := iterL (fun (r_ : ((Unit × Int × Int × Int) × ((Unit × Unit × Unit × Unit) × (Int × Unit) × (Int × Unit) × (Int × Unit) × (Int × Unit) × (List Int) × (List Int) × (List Int) × (List Int))) → Option (Unit × ((Unit × Unit × Unit × Unit) × (Int × Unit) × (Int × Unit) × (Int × Unit) × (Int × Unit) × List Int × List Int × List Int × List Int))) (x : ((Unit × Int × Int × Int) × ((Unit × Unit × Unit × Unit) × (Int × Unit) × (Int × Unit) × (Int × Unit) × (Int × Unit) × (List Int) × (List Int) × (List Int) × (List Int)))) => s47_l1B (fun n204 n205 n206 n207 n208 n209 n210 xs149 xs150 xs151 xs152 => r_ (((), n204, n205, n206), (((), (), (), ()), (n207, ()), (n208, ()), (n209, ()), (n210, ()), xs149, xs150, xs151, xs152))) x.1.2.1 x.1.2.2.1 x.1.2.2.2 x.2.2.1.1 x.2.2.2.1.1 x.2.2.2.2.1.1 x.2.2.2.2.2.1.1 x.2.2.2.2.2.2.1 x.2.2.2.2.2.2.2.1 x.2.2.2.2.2.2.2.2.1 x.2.2.2.2.2.2.2.2.2) n_ (((), n204, n205, n206), (((), (), (), ()), (n207, ()), (n208, ()), (n209, ()), (n210, ()), xs149, xs150, xs151, xs152))
def s47F (l1 : Int → Int → Int → Int → Int → Int → Int → (List Int) → (List Int) → (List Int) → (List Int) → Option (Unit × ((Unit × Unit × Unit × Unit) × (Int × Unit) × (Int × Unit) × (Int × Unit) × (Int × Unit) × List Int × List Int × List Int × List Int))) (n198 : Int) (n199 : Int) (n200 : Int) (n201 : Int) (n202 : Int) (n203 : Int) (xs145 : List Int) (xs146 : List Int) (xs147 : List Int) (xs148 : List Int) : Option (Unit × ((Unit × Unit × Unit × Unit) × (Int × Unit) × (Int × Unit) × (Int × Unit) × (Int × Unit) × List Int × List Int × List Int × List Int)) :=
  l1 n198 n199 0 n200 n201 n202 n203 xs145 xs146 xs147 xs148
def s47 (n198 : Int) (n199 : Int) (n200 : Int) (n201 : Int) (n202 : Int) (n203 : Int) (xs145 : List Int) (xs146 : List Int) (xs147 : List Int) (xs148 : List Int) : Option (Unit × ((Unit × Unit × Unit × Unit) × (Int × Unit) × (Int × Unit) × (Int × Unit) × (Int × Unit) × List Int × List Int × List Int × List Int)) := s47F (s47_l1 FUEL) n198 n199 n200 n201 n202 n203 xs145 xs146 xs147 xs148
/-! ### (*incipit/freemap.Map).AllocRun -/
def s14_v3F (n119 : Int) (n120 : Int) (n121 : Int) (n122 : Int) (n123 : Int) (xs91 : List Int) (xs92 : List Int) (xs93 : List Int) (xs94 : List Int) : Option ((Int × Int) × ((Unit × Unit × Unit × Unit) × (Int × Unit) × (Int × Unit) × (Int × Unit) × (Int × Unit) × List Int × List Int × List Int × List Int)) :=
  (s45_v3 n120 n121 n122 n123 xs91 xs92 xs93 xs94).bind fun y74 =>
  (some y74.2.2.1.1).bind fun n128 =>
  (some y74.2.2.2.1.1).bind fun n129 =>
  (some y74.2.2.2.2.1.1).bind fun n130 =>
  (some y74.2.2.2.2.2.1.1).bind fun n131 =>
  (some y74.2.2.2.2.2.2.1).bind fun xs99 =>
  (some y74.2.2.2.2.2.2.2.1).bind fun xs100 =>
  (some y74.2.2.2.2.2.2.2.2.1).bind fun xs101 =>
  (some y74.2.2.2.2.2.2.2.2.2).bind fun xs102 =>
  if n119 < 1 then
  some ((0, 1), (((), (), (), ()), (n128, ()), (n129, ()), (n130, ()), (n131, ()), xs99, xs100, xs101, xs102))
  else
  (s46 n119 n128 n129 n130 n131 xs99 xs100 xs101 xs102).bind fun y81 =>
  (some y81.1).bind fun n193 =>
  (some y81.2.2.1.1).bind fun n194 =>
  (some y81.2.2.2.1.1).bind fun n195 =>
  (some y81.2.2.2.2.1.1).bind fun n196 =>
  (some y81.2.2.2.2.2.1.1).bind fun n197 =>
  (some y81.2.2.2.2.2.2.1).bind fun xs141 =>
  (some y81.2.2.2.2.2.2.2.1).bind fun xs142 =>
  (some y81.2.2.2.2.2.2.2.2.1).bind fun xs143 =>
  (some y81.2.2.2.2.2.2.2.2.2).bind fun xs144 =>
  if n193 < 0 then
  some ((0, 6), (((), (), (), ()), (n194, ()), (n195, ()), (n196, ()), (n197, ()), xs141, xs142, xs143, xs144))
  else
  (s47 n193 n119 n194 n195 n196 n197 xs141 xs142 xs143 xs144).bind fun y86 =>
  (some y86.2.2.1.1).bind fun n221 =>
  (some y86.2.2.2.1.1).bind fun n222 =>
  (some y86.2.2.2.2.1.1).bind fun n223 =>
  (some y86.2.2.2.2.2.1.1).bind fun n224 =>
  (some y86.2.2.2.2.2.2.1).bind fun xs159 =>
  (some y86.2.2.2.2.2.2.2.1).bind fun xs160 =>
  (some y86.2.2.2.2.2.2.2.2.1).bind fun xs161 =>
  (some y86.2.2.2.2.2.2.2.2.2).bind fun xs162 =>
  some ((n193, 0), (((), (), (), ()), (n221, ()), (n222, ()), (n223, ()), (n224, ()), xs159, xs160, xs161, xs162))
def s14_v3 (n119 : Int) (n120 : Int) (n121 : Int) (n122 : Int) (n123 : Int) (xs91 : List Int) (xs92 : List Int) (xs93 : List Int) (xs94 : List Int) : Option ((Int × Int) × ((Unit × Unit × Unit × Unit) × (Int × Unit) × (Int × Unit) × (Int × Unit) × (Int × Unit) × List Int × List Int × List Int × List Int)) := s14_v3F n119 n120 n121 n122 n123 xs91 xs92 xs93 xs94
/-! ### (*incipit/freemap.Map).Alloc -/
def s12_v3F (n115 : Int) (n116 : Int) (n117 : Int) (n118 : Int) (xs87 : List Int) (xs88 : List Int) (xs89 : List Int) (xs90 : List Int) : Option ((Int × Int) × ((Unit × Unit × Unit × Unit) × (Int × Unit) × (Int × Unit) × (Int × Unit) × (Int × Unit) × List Int × List Int × List Int × List Int)) :=
  (s14_v3 1 n115 n116 n117 n118 xs87 xs88 xs89 xs90).bind fun y87 =>
  (some y87.1.1).bind fun n225 =>
  (some y87.1.2).bind fun n226 =>
  (some y87.2.2.1.1).bind fun n227 =>
  (some y87.2.2.2.1.1).bind fun n228 =>
  (some y87.2.2.2.2.1.1).bind fun n229 =>
  (some y87.2.2.2.2.2.1.1).bind fun n230 =>
  (some y87.2.2.2.2.2.2.1).bind fun xs163 =>
  (some y87.2.2.2.2.2.2.2.1).bind fun xs164 =>
  (some y87.2.2.2.2.2.2.2.2.1).bind fun xs165 =>
  (some y87.2.2.2.2.2.2.2.2.2).bind fun xs166 =>
  some ((n225, n226), (((), (), (), ()), (n227, ()), (n228, ()), (n229, ()), (n230, ()), xs163, xs164, xs165, xs166))
def s12_v3 (n115 : Int) (n116 : Int) (n117 : Int) (n118 : Int) (xs87 : List Int) (xs88 : List Int) (xs89 : List Int) (xs90 : List Int) : Option ((Int × Int) × ((Unit × Unit × Unit × Unit) × (Int × Unit) × (Int × Unit) × (Int × Unit) × (Int × Unit) × List Int × List Int × List Int × List Int)) := s12_v3F n115 n116 n117 n118 xs87 xs88 xs89 xs90
/-! ### (*incipit/freemap.Map).Has -/
def s32_v3F (n252 : Int) (n253 : Int) (n254 : Int) (n255 : Int) (n256 : Int) (xs183 : List Int) (xs184 : List Int) (xs185 : List Int) (xs186 : List Int) : Option (Bool × ((Unit × Unit × Unit × Unit) × (Int × Unit) × (Int × Unit) × (Int × Unit) × (Int × Unit) × List Int × List Int × List Int × List Int)) :=
  (s45_v3 n253 n254 n255 n256 xs183 xs184 xs185 xs186).bind fun y91 =>
  (some y91.2.2.1.1).bind fun n257 =>
  (some y91.2.2.2.1.1).bind fun n258 =>
  (some y91.2.2.2.2.1.1).bind fun n259 =>
  (some y91.2.2.2.2.2.1.1).bind fun n260 =>
  (some y91.2.2.2.2.2.2.1).bind fun xs187 =>
  (some y91.2.2.2.2.2.2.2.1).bind fun xs188 =>
  (some y91.2.2.2.2.2.2.2.2.1).bind fun xs189 =>
  (some y91.2.2.2.2.2.2.2.2.2).bind fun xs190 =>
  if n252 ≥ 0 then
  (s50 n257 xs187).bind fun y92 =>
  (some y92.1).bind fun n261 =>
  (some y92.2.1.1).bind fun n262 =>
  (some y92.2.2).bind fun xs191 =>
  if n252 < n261 then
  (s56 n252 n262 xs191).bind fun y93 =>
  (some y93.1).bind fun b19 =>
  (some y93.2.1.1).bind fun n263 =>
  (some y93.2.2).bind fun xs192 =>
  if ¬ b19 = true then
  (s56 n252 n258 xs188).bind fun y94 =>
  (some y94.1).bind fun b20 =>
  (some y94.2.1.1).bind fun n264 =>
  (some y94.2.2).bind fun xs193 =>
  some (decide (¬ b20 = true), (((), (), (), ()), (n263, ()), (n264, ()), (n259, ()), (n260, ()), xs192, xs193, xs189, xs190))
  else
  some (false, (((), (), (), ()), (n263, ()), (n258, ()), (n259, ()), (n260, ()), xs192, xs188, xs189, xs190))
  else
  some (false, (((), (), (), ()), (n262, ()), (n258, ()), (n259, ()), (n260, ()), xs191, xs188, xs189, xs190))
  else
  some (false, (((), (), (), ()), (n257, ()), (n258, ()), (n259, ()), (n260, ()), xs187, xs188, xs189, xs190))
def s32_v3 (n252 : Int) (n253 : Int) (n254 : Int) (n255 : Int) (n256 : Int) (xs183 : List Int) (xs184 : List Int) (xs185 : List Int) (xs186 : List Int) : Option (Bool × ((Unit × Unit × Unit × Unit) × (Int × Unit) × (Int × Unit) × (Int × Unit) × (Int × Unit) × List Int × List Int × List Int × List Int)) := s32_v3F n252 n253 n254 n255 n256 xs183 xs184 xs185 xs186
/-! ### (*incipit/freemap.Map).Free -/
def s15_v3F (n243 : Int) (n244 : Int) (n245 : Int) (n246 : Int) (n247 : Int) (xs175 : List Int) (xs176 : List Int) (xs177 : List Int) (xs178 : List Int) : Option (Int × ((Unit × Unit × Unit × Unit) × (Int × Unit) × (Int × Unit) × (Int × Unit) × (Int × Unit) × List Int × List Int × List Int × List Int)) :=
  (s45_v3 n244 n245 n246 n247 xs175 xs176 xs177 xs178).bind fun y90 =>
  (some y90.2.2.1.1).bind fun n248 =>
  (some y90.2.2.2.1.1).bind fun n249 =>
  (some y90.2.2.2.2.1.1).bind fun n250 =>
  (some y90.2.2.2.2.2.1.1).bind fun n251 =>
  (some y90.2.2.2.2.2.2.1).bind fun xs179 =>
  (some y90.2.2.2.2.2.2.2.1).bind fun xs180 =>
  (some y90.2.2.2.2.2.2.2.2.1).bind fun xs181 =>
  (some y90.2.2.2.2.2.2.2.2.2).bind fun xs182 =>
  (s32_v3 n243 n248 n249 n250 n251 xs179 xs180 xs181 xs182).bind fun y95 =>
  (some y95.1).bind fun b21 =>
  (some y95.2.2.1.1).bind fun n265 =>
  (some y95.2.2.2.1.1).bind fun n266 =>
  (some y95.2.2.2.2.1.1).bind fun n267 =>
  (some y95.2.2.2.2.2.1.1).bind fun n268 =>
  (some y95.2.2.2.2.2.2.1).bind fun xs194 =>
  (some y95.2.2.2.2.2.2.2.1).bind fun xs195 =>
  (some y95.2.2.2.2.2.2.2.2.1).bind fun xs196 =>
  (some y95.2.2.2.2.2.2.2.2.2).bind fun xs197 =>
  if ¬ b21 = true then
  some (4, (((), (), (), ()), (n265, ()), (n266, ()), (n267, ()), (n268, ()), xs194, xs195, xs196, xs197))
  else
  (s48 n243 n267 xs196).bind fun y96 =>
  (some y96.1).bind fun n269 =>
  (some y96.2.1.1).bind fun n270 =>
  (some y96.2.2).bind fun xs198 =>
  if n269 = 0 then
  (s41 n243 n265 xs194).bind fun y97 =>
  (some y97.1).bind fun n271 =>
  (some y97.2.1.1).bind fun n272 =>
  (some y97.2.2).bind fun xs199 =>
  some (n271, (((), (), (), ()), (n272, ()), (n266, ()), (n270, ()), (n268, ()), xs199, xs195, xs198, xs197))
  else
  (s41 n243 n266 xs195).bind fun y98 =>
  (some y98.1).bind fun n273 =>
  (some y98.2.1.1).bind fun n274 =>
  (some y98.2.2).bind fun xs200 =>
  some (n273, (((), (), (), ()), (n265, ()), (n274, ()), (n270, ()), (n268, ()), xs194, xs200, xs198, xs197))
def s15_v3 (n243 : Int) (n244 : Int) (n245 : Int) (n246 : Int) (n247 : Int) (xs175 : List Int) (xs176 : List Int) (xs177 : List Int) (xs178 : List Int) : Option (Int × ((Unit × Unit × Unit × Unit) × (Int × Unit) × (Int × Unit) × (Int × Unit) × (Int × Unit) × List Int × List Int × List Int × List Int)) := s15_v3F n243 n244 n245 n246 n247 xs175 xs176 xs177 xs178
/-! ### (*incipit/extent.Set).All -/
def s49F (n303 : Int) (xs225 : List Int) : Option ((Unit × Unit) × ((Int × Unit) × List Int × Unit)) :=
  some (((), ()), ((n303, ()), xs225, ()))
def s49 (n303 : Int) (xs225 : List Int) : Option ((Unit × Unit) × ((Int × Unit) × List Int × Unit)) := s49F n303 xs225
/-! ### (*incipit/extent.Set).All$1 -/
def s70_j1F (r_l1 : Int → Int → (List Int) → Option (Tr Int (Unit × (Int × Unit) × List Int))) (n314 : Int) (b23 : Bool) (n315 : Int) (xs234 : List Int) : Option (Tr Int (Unit × (Int × Unit) × List Int)) :=
  if b23 = true then
  some (.done ((), (n315, ()), xs234))
  else
  (s71 (IntKind.i64.wrap (n314 + 1)) n315 xs234).bind fun y105 =>
  (some y105.1).bind fun n316 =>
  (some y105.2.1.1).bind fun n317 =>
  (some y105.2.2).bind fun xs235 =>
  r_l1 n316 n317 xs235
def s70_j1 (r_l1 : Int → Int → (List Int) → Option (Tr Int (Unit × (Int × Unit) × List Int))) (n314 : Int) (b23 : Bool) (n315 : Int) (xs234 : List Int) : Option (Tr Int (Unit × (Int × Unit) × List Int)) := s70_j1F r_l1 n314 b23 n315 xs234
def s70_l1B (j1 : Int → Bool → Int → (List Int) → Option (Tr Int (Unit × (Int × Unit) × List Int))) (n312 : Int) (n313 : Int) (xs233 : List Int) : Option (Tr Int (Unit × (Int × Unit) × List Int)) :=
  if n312 ≥ 0 then
  consT n312 (
  j1 n312 true n313 xs233)
  (j1 n312 false n313 xs233)
  else
  some (.done ((), (n313, ()), xs233))
def s70_l1 (n_ : Nat) (n312 : Int) (n313 : Int) (xs233 : List Int) : Option (Tr Int (Unit × (Int × Unit) × List Int)) := iterL (fun (r_ : ((Unit × Unit × Int) × (Unit × (Int × Unit) × (List Int))) → Option (Tr Int (Unit × (Int × Unit) × List Int))) (x : ((Unit × Unit × Int) × (Unit × (Int × Unit) × (List Int)))) => s70_l1B (s70_j1 (fun n312 n313 xs233 => r_ (((), (), n312), ((), (n313, ()), xs233)))) x.1.2.2 x.2.2.1.1 x.2.2.2) n_ (((), (), n312), ((), (n313, ()), xs233))
def s70F (l1 : Int → Int → (List Int) → Option (Tr Int (Unit × (Int × Unit) × List Int))) (n309 : Int) (xs231 : List Int) : Option (Tr Int (Unit × (Int × Unit) × List Int)) :=
  (s71 0 n309 xs231).bind fun y104 =>
  (some y104.1).bind fun n310 =>
  (some y104.2.1.1).bind fun n311 =>
  (some y104.2.2).bind fun xs232 =>
  l1 n310 n311 xs232
def s70 (n309 : Int) (xs231 : List Int) : Option (Tr Int (Unit × (Int × Unit) × List Int)) := s70F (s70_l1 FUEL) n309 xs231
/-! ### (*incipit/freemap.Map).none -/
def s68_v2F (n335 : Int) (n336 : Int) (n337 : Int) (n338 : Int) (xs251 : List Int) (xs252 : List Int) (xs253 : List Int) (xs254 : List Int) : Option (Unit × ((Unit × Unit × Unit × Unit) × (Int × Unit) × (Int × Unit) × (Int × Unit) × (Int × Unit) × List Int × List Int × List Int × List Int × (Int × Unit) × List Int)) :=
  (s50 n335 xs251).bind fun y108 =>
  (some y108.1).bind fun n339 =>
  (some y108.2.1.1).bind fun n340 =>
  (some y108.2.2).bind fun xs255 =>
  (s40_v2 n339).bind fun y109 =>
  (some y109.2.1.1).bind fun n341 =>
  (some y109.2.2).bind fun xs256 =>
  some ((), (((), (), (), ()), (n340, ()), (n336, ()), (n337, ()), (n338, ()), xs255, xs252, xs253, xs254, (n341, ()), xs256))
def s68_v2 (n335 : Int) (n336 : Int) (n337 : Int) (n338 : Int) (xs251 : List Int) (xs252 : List Int) (xs253 : List Int) (xs254 : List Int) : Option (Unit × ((Unit × Unit × Unit × Unit) × (Int × Unit) × (Int × Unit) × (Int × Unit) × (Int × Unit) × List Int × List Int × List Int × List Int × (Int × Unit) × List Int)) := s68_v2F n335 n336 n337 n338 xs251 xs252 xs253 xs254
/-! ### (*incipit/freemap.Map).settle -/
def s43_v2F (n329 : Int) (n330 : Int) (n331 : Int) (n332 : Int) (xs245 : List Int) (xs246 : List Int) (xs247 : List Int) (xs248 : List Int) : Option (Unit × ((Unit × Unit × Unit × Unit) × (Int × Unit) × (Int × Unit) × (Int × Unit) × (Int × Unit) × List Int × List Int × List Int × List Int × (Int × Unit) × (Int × Unit) × (Int × Unit) × List Int × List Int × List Int)) :=
  (s65_v2 n329 xs245).bind fun y107 =>
  (some y107.2.1.1).bind fun n333 =>
  (some y107.2.2.1).bind fun xs249 =>
  (some y107.2.2.2.1.1).bind fun n334 =>
  (some y107.2.2.2.2).bind fun xs250 =>
  (s68_v2 n333 n330 n331 n334 xs249 xs246 xs247 xs250).bind fun y110 =>
  (some y110.2.2.1.1).bind fun n342 =>
  (some y110.2.2.2.1.1).bind fun n343 =>
  (some y110.2.2.2.2.1.1).bind fun n344 =>
  (some y110.2.2.2.2.2.1.1).bind fun n345 =>
  (some y110.2.2.2.2.2.2.1).bind fun xs257 =>
  (some y110.2.2.2.2.2.2.2.1).bind fun xs258 =>
  (some y110.2.2.2.2.2.2.2.2.1).bind fun xs259 =>
  (some y110.2.2.2.2.2.2.2.2.2.1).bind fun xs260 =>
  (some y110.2.2.2.2.2.2.2.2.2.2.1.1).bind fun n346 =>
  (some y110.2.2.2.2.2.2.2.2.2.2.2).bind fun xs261 =>
  (s68_v2 n342 n343 n344 n345 xs257 xs258 xs259 xs260).bind fun y111 =>
  (some y111.2.2.1.1).bind fun n347 =>
  (some y111.2.2.2.1.1).bind fun n348 =>
  (some y111.2.2.2.2.1.1).bind fun n349 =>
  (some y111.2.2.2.2.2.1.1).bind fun n350 =>
  (some y111.2.2.2.2.2.2.1).bind fun xs262 =>
  (some y111.2.2.2.2.2.2.2.1).bind fun xs263 =>
  (some y111.2.2.2.2.2.2.2.2.1).bind fun xs264 =>
  (some y111.2.2.2.2.2.2.2.2.2.1).bind fun xs265 =>
  (some y111.2.2.2.2.2.2.2.2.2.2.1.1).bind fun n351 =>
  (some y111.2.2.2.2.2.2.2.2.2.2.2).bind fun xs266 =>
  some ((), (((), (), (), ()), (n347, ()), (n348, ()), (n349, ()), (n332, ()), xs262, xs263, xs264, xs248, (n346, ()), (n351, ()), (n350, ()), xs261, xs266, xs265))
def s43_v2 (n329 : Int) (n330 : Int) (n331 : Int) (n332 : Int) (xs245 : List Int) (xs246 : List Int) (xs247 : List Int) (xs248 : List Int) : Option (Unit × ((Unit × Unit × Unit × Unit) × (Int × Unit) × (Int × Unit) × (Int × Unit) × (Int × Unit) × List Int × List Int × List Int × List Int × (Int × Unit) × (Int × Unit) × (Int × Unit) × List Int × List Int × List Int)) := s43_v2F n329 n330 n331 n332 xs245 xs246 xs247 xs248
/-! ### (*incipit/freemap.Map).Commit -/
def s16_v3_r1B (r_r1 : Int → Int → Int → (List Int) → (List Int) → (List Int) → Option (Unit × ((Unit × Unit × Unit × Unit) × (Int × Unit) × (Int × Unit) × (Int × Unit) × (Int × Unit) × List Int × List Int × List Int × List Int × (Int × Unit) × (Int × Unit) × (Int × Unit) × List Int × List Int × List Int))) (n322 : Int) (n318 : Int) (n319 : Int) (n320 : Int) (xs236 : List Int) (xs237 : List Int) (xs238 : List Int) : Option (Unit × ((Unit × Unit × Unit × Unit) × (Int × Unit) × (Int × Unit) × (Int × Unit) × (Int × Unit) × List Int × List Int × List Int × List Int × (Int × Unit) × (Int × Unit) × (Int × Unit) × List Int × List Int × List Int)) :=
  (s41 n322 n318 xs236).bind fun y106 =>
  (some y106.1).bind fun n323 =>
  (some y106.2.1.1).bind fun n324 =>
  (some y106.2.2).bind fun xs240 =>
  r_r1 n324 n319 n320 xs240 xs237 xs238
def s16_v3_r1D (n325 : Int) (xs241 : List Int) (n326 : Int) (n327 : Int) (n328 : Int) (xs242 : List Int) (xs243 : List Int) (xs244 : List Int) : Option (Unit × ((Unit × Unit × Unit × Unit) × (Int × Unit) × (Int × Unit) × (Int × Unit) × (Int × Unit) × List Int × List Int × List Int × List Int × (Int × Unit) × (Int × Unit) × (Int × Unit) × List Int × List Int × List Int)) :=
  (s43_v2 n326 n325 n327 n328 xs242 xs241 xs243 xs244).bind fun y112 =>
  (some y112.2.2.1.1).bind fun n352 =>
  (some y112.2.2.2.1.1).bind fun n353 =>
  (some y112.2.2.2.2.1.1).bind fun n354 =>
  (some y112.2.2.2.2.2.1.1).bind fun n355 =>
  (some y112.2.2.2.2.2.2.1).bind fun xs267 =>
  (some y112.2.2.2.2.2.2.2.1).bind fun xs268 =>
  (some y112.2.2.2.2.2.2.2.2.1).bind fun xs269 =>
  (some y112.2.2.2.2.2.2.2.2.2.1).bind fun xs270 =>
  (some y112.2.2.2.2.2.2.2.2.2.2.1.1).bind fun n356 =>
  (some y112.2.2.2.2.2.2.2.2.2.2.2.1.1).bind fun n357 =>
  (some y112.2.2.2.2.2.2.2.2.2.2.2.2.1.1).bind fun n358 =>
  (some y112.2.2.2.2.2.2.2.2.2.2.2.2.2.1).bind fun xs271 =>
  (some y112.2.2.2.2.2.2.2.2.2.2.2.2.2.2.1).bind fun xs272 =>
  (some y112.2.2.2.2.2.2.2.2.2.2.2.2.2.2.2).bind fun xs273 =>
  some ((), (((), (), (), ()), (n352, ()), (n353, ()), (n354, ()), (n355, ()), xs267, xs268, xs269, xs270, (n356, ()), (n357, ()), (n358, ()), xs271, xs272, xs273))
def s16_v3_r1 (tr_ : (Tr Int (Unit × (Int × Unit) × (List Int)))) (n318 : Int) (n319 : Int) (n320 : Int) (xs236 : List Int) (xs237 : List Int) (xs238 : List Int) : Option (Unit × ((Unit × Unit × Unit × Unit) × (Int × Unit) × (Int × Unit) × (Int × Unit) × (Int × Unit) × List Int × List Int × List Int × List Int × (Int × Unit) × (Int × Unit) × (Int × Unit) × List Int × List Int × List Int)) := iterT (fun (d_ : (Unit × (Int × Unit) × (List Int))) (y_ : ((Unit × Unit × Unit × Unit) × (Int × Unit) × (Int × Unit) × (Int × Unit) × (List Int) × (List Int) × (List Int) × Unit)) => s16_v3_r1D d_.2.1.1 d_.2.2 y_.2.1.1 y_.2.2.1.1 y_.2.2.2.1.1 y_.2.2.2.2.1 y_.2.2.2.2.2.1 y_.2.2.2.2.2.2.1) (fun (v_ : Int) (t_ : (Unit × (Int × Unit) × (List Int))) (r_ : ((Unit × Unit × Unit × Unit) × (Int × Unit) × (Int × Unit) × (Int × Unit) × (List Int) × (List Int) × (List Int) × Unit) → Option (Unit × ((Unit × Unit × Unit × Unit) × (Int × Unit) × (Int × Unit) × (Int × Unit) × (Int × Unit) × List Int × List Int × List Int × List Int × (Int × Unit) × (Int × Unit) × (Int × Unit) × List Int × List Int × List Int))) (y_ : ((Unit × Unit × Unit × Unit) × (Int × Unit) × (Int × Unit) × (Int × Unit) × (List Int) × (List Int) × (List Int) × Unit)) => s16_v3_r1B (fun n318 n319 n320 xs236 xs237 xs238 => r_ (((), (), (), ()), (n318, ()), (n319, ()), (n320, ()), xs236, xs237, xs238, ())) v_ y_.2.1.1 y_.2.2.1.1 y_.2.2.2.1.1 y_.2.2.2.2.1 y_.2.2.2.2.2.1 y_.2.2.2.2.2.2.1) tr_ (((), (), (), ()), (n318, ()), (n319, ()), (n320, ()), xs236, xs237, xs238, ())
def s16_v3_j1F (r1 : (Tr Int (Unit × (Int × Unit) × (List Int))) → Int → Int → Int → (List Int) → (List Int) → (List Int) → Option (Unit × ((Unit × Unit × Unit × Unit) × (Int × Unit) × (Int × Unit) × (Int × Unit) × (Int × Unit) × List Int × List Int × List Int × List Int × (Int × Unit) × (Int × Unit) × (Int × Unit) × List Int × List Int × List Int))) (n305 : Int) (n306 : Int) (n307 : Int) (n308 : Int) (xs227 : List Int) (xs228 : List Int) (xs229 : List Int) (xs230 : List Int) : Option (Unit × ((Unit × Unit × Unit × Unit) × (Int × Unit) × (Int × Unit) × (Int × Unit) × (Int × Unit) × List Int × List Int × List Int × List Int × (Int × Unit) × (Int × Unit) × (Int × Unit) × List Int × List Int × List Int)) :=
  (s70 n306 xs228).bind fun tr4 =>
  r1 tr4 n305 n307 n308 xs227 xs229 xs230
def s16_v3_j1 (n305 : Int) (n306 : Int) (n307 : Int) (n308 : Int) (xs227 : List Int) (xs228 : List Int) (xs229 : List Int) (xs230 : List Int) : Option (Unit × ((Unit × Unit × Unit × Unit) × (Int × Unit) × (Int × Unit) × (Int × Unit) × (Int × Unit) × List Int × List Int × List Int × List Int × (Int × Unit) × (Int × Unit) × (Int × Unit) × List Int × List Int × List Int)) := s16_v3_j1F s16_v3_r1 n305 n306 n307 n308 xs227 xs228 xs229 xs230
def s16_v3F (j1 : Int → Int → Int → Int → (List Int) → (List Int) → (List Int) → (List Int) → Option (Unit × ((Unit × Unit × Unit × Unit) × (Int × Unit) × (Int × Unit) × (Int × Unit) × (Int × Unit) × List Int × List Int × List Int × List Int × (Int × Unit) × (Int × Unit) × (Int × Unit) × List Int × List Int × List Int))) (n295 : Int) (n296 : Int) (n297 : Int) (n298 : Int) (xs217 : List Int) (xs218 : List Int) (xs219 : List Int) (xs220 : List Int) : Option (Unit × ((Unit × Unit × Unit × Unit) × (Int × Unit) × (Int × Unit) × (Int × Unit) × (Int × Unit) × List Int × List Int × List Int × List Int × (Int × Unit) × (Int × Unit) × (Int × Unit) × List Int × List Int × List Int)) :=
  (s45_v3 n295 n296 n297 n298 xs217 xs218 xs219 xs220).bind fun y102 =>
  (some y102.2.2.1.1).bind fun n299 =>
  (some y102.2.2.2.1.1).bind fun n300 =>
  (some y102.2.2.2.2.1.1).bind fun n301 =>
  (some y102.2.2.2.2.2.1.1).bind fun n302 =>
  (some y102.2.2.2.2.2.2.1).bind fun xs221 =>
  (some y102.2.2.2.2.2.2.2.1).bind fun xs222 =>
  (some y102.2.2.2.2.2.2.2.2.1).bind fun xs223 =>
  (some y102.2.2.2.2.2.2.2.2.2).bind fun xs224 =>
  (s49 n300 xs222).bind fun y103 =>
  (some y103.2.1.1).bind fun n304 =>
  (some y103.2.2.1).bind fun xs226 =>
  j1 n299 n304 n301 n302 xs221 xs226 xs223 xs224
def s16_v3 (n295 : Int) (n296 : Int) (n297 : Int) (n298 : Int) (xs217 : List Int) (xs218 : List Int) (xs219 : List Int) (xs220 : List Int) : Option (Unit × ((Unit × Unit × Unit × Unit) × (Int × Unit) × (Int × Unit) × (Int × Unit) × (Int × Unit) × List Int × List Int × List Int × List Int × (Int × Unit) × (Int × Unit) × (Int × Unit) × List Int × List Int × List Int)) := s16_v3F s16_v3_j1 n295 n296 n297 n298 xs217 xs218 xs219 xs220
/-! ### (*incipit/freemap.Map).Taken -/
def s17_v3_j1F (r_l1 : Int → Int → Int → Int → Int → Int → (List Int) → (List Int) → (List Int) → (List Int) → (List Int) → Option (Unit × ((Unit × Unit × Unit × Unit) × (Int × Unit) × (Int × Unit) × (Int × Unit) × (Int × Unit) × List Int × List Int × List Int × List Int × List Int))) (n402 : Int) (n403 : Int) (n404 : Int) (n405 : Int) (n406 : Int) (n407 : Int) (xs314 : List Int) (xs315 : List Int) (xs316 : List Int) (xs317 : List Int) (xs318 : List Int) : Option (Unit × ((Unit × Unit × Unit × Unit) × (Int × Unit) × (Int × Unit) × (Int × Unit) × (Int × Unit) × List Int × List Int × List Int × List Int × List Int)) :=
  r_l1 n402 (IntKind.i64.wrap (n403 + 1)) n404 n405 n406 n407 xs314 xs315 xs316 xs317 xs318
def s17_v3_j1 (r_l1 : Int → Int → Int → Int → Int → Int → (List Int) → (List Int) → (List Int) → (List Int) → (List Int) → Option (Unit × ((Unit × Unit × Unit × Unit) × (Int × Unit) × (Int × Unit) × (Int × Unit) × (Int × Unit) × List Int × List Int × List Int × List Int × List Int))) (n402 : Int) (n403 : Int) (n404 : Int) (n405 : Int) (n406 : Int) (n407 : Int) (xs314 : List Int) (xs315 : List Int) (xs316 : List Int) (xs317 : List Int) (xs318 : List Int) : Option (Unit × ((Unit × Unit × Unit × Unit) × (Int × Unit) × (Int × Unit) × (Int × Unit) × (Int × Unit) × List Int × List Int × List Int × List Int × List Int)) := s17_v3_j1F r_l1 n402 n403 n404 n405 n406 n407 xs314 xs315 xs316 xs317 xs318
def s17_v3_l1B (j1 : Int → Int → Int → Int → Int → Int → (List Int) → (List Int) → (List Int) → (List Int) → (List Int) → Option (Unit × ((Unit × Unit × Unit × Unit) × (Int × Unit) × (Int × Unit) × (Int × Unit) × (Int × Unit) × List Int × List Int × List Int × List Int × List Int))) (n392 : Int) (n393 : Int) (n394 : Int) (n395 : Int) (n396 : Int) (n397 : Int) (xs304 : List Int) (xs305 : List Int) (xs306 : List Int) (xs307 : List Int) (xs308 : List Int) : Option (Unit × ((Unit × Unit × Unit × Unit) × (Int × Unit) × (Int × Unit) × (Int × Unit) × (Int × Unit) × List Int × List Int × List Int × List Int × List Int)) :=
  if n393 < n392 then
  (s32_v3 n393 n394 n395 n396 n397 xs304 xs305 xs306 xs307).bind fun y117 =>
  (some y117.1).bind fun b25 =>
  (some y117.2.2.1.1).bind fun n398 =>
  (some y117.2.2.2.1.1).bind fun n399 =>
  (some y117.2.2.2.2.1.1).bind fun n400 =>
  (some y117.2.2.2.2.2.1.1).bind fun n401 =>
  (some y117.2.2.2.2.2.2.1).bind fun xs309 =>
  (some y117.2.2.2.2.2.2.2.1).bind fun xs310 =>
  (some y117.2.2.2.2.2.2.2.2.1).bind fun xs311 =>
  (some y117.2.2.2.2.2.2.2.2.2).bind fun xs312 =>
  if b25 = true then
  (appI xs308 ([n393] : List Int) 8).bind fun xs313 =>
  j1 n392 n393 n398 n399 n400 n401 xs309 xs310 xs311 xs312 xs313
  else
  j1 n392 n393 n398 n399 n400 n401 xs309 xs310 xs311 xs312 xs308
  else
  some ((), (((), (), (), ()), (n394, ()), (n395, ()), (n396, ()), (n397, ()), xs304, xs305, xs306, xs307, xs308))
def s17_v3_l1 (n_ : Nat) (n392 : Int) (n393 : Int) (n394 : Int) (n395 : Int) (n396 : Int) (n397 : Int) (xs304 : List Int) (xs305 : List Int) (xs306 : List Int) (xs307 : List Int) (xs308 : List Int) : Option (Unit × ((Unit × Unit × Unit × Unit) × (Int × Unit) × (Int × Unit) × (Int × Unit) × (Int × Unit) × List Int × List Int × List Int × List Int × List Int)) := iterL (fun (r_ : ((Unit × Unit × Int × Int) × ((Unit × Unit × Unit × Unit) × (Int × Unit) × (Int × Unit) × (Int × Unit) × (Int × Unit) × (List Int) × (List Int) × (List Int) × (List Int) × (List Int))) → Option (Unit × ((Unit × Unit × Unit × Unit) × (Int × Unit) × (Int × Unit) × (Int × Unit) × (Int × Unit) × List Int × List Int × List Int × List Int × List Int))) (x : ((Unit × Unit × Int × Int) × ((Unit × Unit × Unit × Unit) × (Int × Unit) × (Int × Unit) × (Int × Unit) × (Int × Unit) × (List Int) × (List Int) × (List Int) × (List Int) × (List Int)))) => s17_v3_l1B (s17_v3_j1 (fun n392 n393 n394 n395 n396 n397 xs304 xs305 xs306 xs307 xs308 => r_ (((), (), n392, n393), (((), (), (), ()), (n394, ()), (n395, ()), (n396, ()), (n397, ()), xs304, xs305, xs306, xs307, xs308)))) x.1.2.2.1 x.1.2.2.2 x.2.2.1.1 x.2.2.2.1.1 x.2.2.2.2.1.1 x.2.2.2.2.2.1.1 x.2.2.2.2.2.2.1 x.2.2.2.2.2.2.2.1 x.2.2.2.2.2.2.2.2.1 x.2.2.2.2.2.2.2.2.2.1 x.2.2.2.2.2.2.2.2.2.2) n_ (((), (), n392, n393), (((), (), (), ()), (n394, ()), (n395, ()), (n396, ()), (n397, ()), xs304, xs305, xs306, xs307, xs308))
def s17_v3F (l1 : Int → Int → Int → Int → Int → Int → (List Int) → (List Int) → (List Int) → (List Int) → (List Int) → Option (Unit × ((Unit × Unit × Unit × Unit) × (Int × Unit) × (Int × Unit) × (Int × Unit) × (Int × Unit) × List Int × List Int × List Int × List Int × List Int))) (n366 : Int) (n367 : Int) (n368 : Int) (n369 : Int) (xs281 : List Int) (xs282 : List Int) (xs283 : List Int) (xs284 : List Int) : Option (Unit × ((Unit × Unit × Unit × Unit) × (Int × Unit) × (Int × Unit) × (Int × Unit) × (Int × Unit) × List Int × List Int × List Int × List Int × List Int)) :=
  (s45_v3 n366 n367 n368 n369 xs281 xs282 xs283 xs284).bind fun y114 =>
  (some y114.2.2.1.1).bind fun n370 =>
  (some y114.2.2.2.1.1).bind fun n371 =>
  (some y114.2.2.2.2.1.1).bind fun n372 =>
  (some y114.2.2.2.2.2.1.1).bind fun n373 =>
  (some y114.2.2.2.2.2.2.1).bind fun xs285 =>
  (some y114.2.2.2.2.2.2.2.1).bind fun xs286 =>
  (some y114.2.2.2.2.2.2.2.2.1).bind fun xs287 =>
  (some y114.2.2.2.2.2.2.2.2.2).bind fun xs288 =>
  (s50 n370 xs285).bind fun y115 =>
  (some y115.1).bind fun n374 =>
  (some y115.2.1.1).bind fun n375 =>
  (some y115.2.2).bind fun xs289 =>
  l1 n374 0 n375 n371 n372 n373 xs289 xs286 xs287 xs288 []
def s17_v3 (n366 : Int) (n367 : Int) (n368 : Int) (n369 : Int) (xs281 : List Int) (xs282 : List Int) (xs283 : List Int) (xs284 : List Int) : Option (Unit × ((Unit × Unit × Unit × Unit) × (Int × Unit) × (Int × Unit) × (Int × Unit) × (Int × Unit) × List Int × List Int × List Int × List Int × List Int)) := s17_v3F (s17_v3_l1 FUEL) n366 n367 n368 n369 xs281 xs282 xs283 xs284
/-! ### slices.Equal[[]int,int] -/
def s19_l1B (r_l1 : (List Int) → (List Int) → Int → Int → Option Bool) (xs326 : List Int) (xs327 : List Int) (n412 : Int) (n413 : Int) : Option Bool :=
  if n413 < n412 then
  (getI xs326 n413).bind fun x11 =>
  (getI xs327 n413).bind fun x12 =>
  if x11 ≠ x12 then
  some false
  else
  r_l1 xs326 xs327 n412 (IntKind.i64.wrap (n413 + 1))
  else
  some true
def s19_l1 (n_ : Nat) (xs326 : List Int) (xs327 : List Int) (n412 : Int) (n413 : Int) : Option Bool := iterL (fun (r_ : ((List Int) × (List Int) × Int × Int) → Option Bool) (x : ((List Int) × (List Int) × Int × Int)) => s19_l1B (fun xs326 xs327 n412 n413 => r_ (xs326, xs327, n412, n413)) x.1 x.2.1 x.2.2.1 x.2.2.2) n_ (xs326, xs327, n412, n413)
def s19F (l1 : (List Int) → (List Int) → Int → Int → Option Bool) (xs324 : List Int) (xs325 : List Int) : Option Bool :=
  if (xs324.length : Int) ≠ (xs325.length : Int) then
  some false
  else
  l1 xs324 xs325 (xs324.length : Int) 0
def s19 (xs324 : List Int) (xs325 : List Int) : Option Bool := s19F (s19_l1 FUEL) xs324 xs325
/-! ### incipit/incipitlaw08.live -/
def s9_j2F (b13 : Bool) : Option Bool :=
  if b13 = true then
  some false
  else
  (s12).bind fun y72 =>
  (s14 2).bind fun y73 =>
  some false
def s9_j2 (b13 : Bool) : Option Bool := s9_j2F b13
def s9_j1F (j2 : Bool → Option Bool) (n105 : Int) : Option Bool :=
  if n105 ≠ 0 then
  j2 true
  else
  j2 true
def s9_j1 (n105 : Int) : Option Bool := s9_j1F s9_j2 n105
def s9_j5F (b22 : Bool) (n285 : Int) (n286 : Int) (n287 : Int) (n288 : Int) (xs209 : List Int) (xs210 : List Int) (xs211 : List Int) (xs212 : List Int) : Option Bool :=
  if b22 = true then
  some false
  else
  (s12_v3 n285 n286 n287 n288 xs209 xs210 xs211 xs212).bind fun y101 =>
  (some y101.1.1).bind fun n289 =>
  (some y101.1.2).bind fun n290 =>
  (some y101.2.2.1.1).bind fun n291 =>
  (some y101.2.2.2.1.1).bind fun n292 =>
  (some y101.2.2.2.2.1.1).bind fun n293 =>
  (some y101.2.2.2.2.2.1.1).bind fun n294 =>
  (some y101.2.2.2.2.2.2.1).bind fun xs213 =>
  (some y101.2.2.2.2.2.2.2.1).bind fun xs214 =>
  (some y101.2.2.2.2.2.2.2.2.1).bind fun xs215 =>
  (some y101.2.2.2.2.2.2.2.2.2).bind fun xs216 =>
  if n289 = 2 then
  if n290 = 0 then
  (s16_v3 n291 n292 n293 n294 xs213 xs214 xs215 xs216).bind fun y113 =>
  (some y113.2.2.1.1).bind fun n359 =>
  (some y113.2.2.2.1.1).bind fun n360 =>
  (some y113.2.2.2.2.1.1).bind fun n361 =>
  (some y113.2.2.2.2.2.1.1).bind fun n362 =>
  (some y113.2.2.2.2.2.2.1).bind fun xs274 =>
  (some y113.2.2.2.2.2.2.2.1).bind fun xs275 =>
  (some y113.2.2.2.2.2.2.2.2.1).bind fun xs276 =>
  (some y113.2.2.2.2.2.2.2.2.2.1).bind fun xs277 =>
  (some y113.2.2.2.2.2.2.2.2.2.2.1.1).bind fun n363 =>
  (some y113.2.2.2.2.2.2.2.2.2.2.2.1.1).bind fun n364 =>
  (some y113.2.2.2.2.2.2.2.2.2.2.2.2.1.1).bind fun n365 =>
  (some y113.2.2.2.2.2.2.2.2.2.2.2.2.2.1).bind fun xs278 =>
  (some y113.2.2.2.2.2.2.2.2.2.2.2.2.2.2.1).bind fun xs279 =>
  (some y113.2.2.2.2.2.2.2.2.2.2.2.2.2.2.2).bind fun xs280 =>
  (s17_v3 n359 n363 n364 n365 xs274 xs278 xs279 xs280).bind fun y118 =>
  (some y118.2.2.1.1).bind fun n408 =>
  (some y118.2.2.2.1.1).bind fun n409 =>
  (some y118.2.2.2.2.1.1).bind fun n410 =>
  (some y118.2.2.2.2.2.1.1).bind fun n411 =>
  (some y118.2.2.2.2.2.2.1).bind fun xs319 =>
  (some y118.2.2.2.2.2.2.2.1).bind fun xs320 =>
  (some y118.2.2.2.2.2.2.2.2.1).bind fun xs321 =>
  (some y118.2.2.2.2.2.2.2.2.2.1).bind fun xs322 =>
  (some y118.2.2.2.2.2.2.2.2.2.2).bind fun xs323 =>
  (s19 xs323 ([0, 1, 2, 5, 6] : List Int)).bind fun b26 =>
  some b26
  else
  some false
  else
  some false
def s9_j5 (b22 : Bool) (n285 : Int) (n286 : Int) (n287 : Int) (n288 : Int) (xs209 : List Int) (xs210 : List Int) (xs211 : List Int) (xs212 : List Int) : Option Bool := s9_j5F b22 n285 n286 n287 n288 xs209 xs210 xs211 xs212
def s9_j4F (j5 : Bool → Int → Int → Int → Int → (List Int) → (List Int) → (List Int) → (List Int) → Option Bool) (b14 : Bool) (n111 : Int) (n112 : Int) (n113 : Int) (n114 : Int) (xs83 : List Int) (xs84 : List Int) (xs85 : List Int) (xs86 : List Int) : Option Bool :=
  if b14 = true then
  some false
  else
  (s12_v3 n111 n112 n113 n114 xs83 xs84 xs85 xs86).bind fun y88 =>
  (some y88.1.1).bind fun n231 =>
  (some y88.1.2).bind fun n232 =>
  (some y88.2.2.1.1).bind fun n233 =>
  (some y88.2.2.2.1.1).bind fun n234 =>
  (some y88.2.2.2.2.1.1).bind fun n235 =>
  (some y88.2.2.2.2.2.1.1).bind fun n236 =>
  (some y88.2.2.2.2.2.2.1).bind fun xs167 =>
  (some y88.2.2.2.2.2.2.2.1).bind fun xs168 =>
  (some y88.2.2.2.2.2.2.2.2.1).bind fun xs169 =>
  (some y88.2.2.2.2.2.2.2.2.2).bind fun xs170 =>
  (s14_v3 2 n233 n234 n235 n236 xs167 xs168 xs169 xs170).bind fun y89 =>
  (some y89.1.1).bind fun n237 =>
  (some y89.1.2).bind fun n238 =>
  (some y89.2.2.1.1).bind fun n239 =>
  (some y89.2.2.2.1.1).bind fun n240 =>
  (some y89.2.2.2.2.1.1).bind fun n241 =>
  (some y89.2.2.2.2.2.1.1).bind fun n242 =>
  (some y89.2.2.2.2.2.2.1).bind fun xs171 =>
  (some y89.2.2.2.2.2.2.2.1).bind fun xs172 =>
  (some y89.2.2.2.2.2.2.2.2.1).bind fun xs173 =>
  (some y89.2.2.2.2.2.2.2.2.2).bind fun xs174 =>
  if n231 ≠ 2 then
  j5 true n239 n240 n241 n242 xs171 xs172 xs173 xs174
  else
  if n237 ≠ 5 then
  j5 true n239 n240 n241 n242 xs171 xs172 xs173 xs174
  else
  if n232 ≠ 0 then
  j5 true n239 n240 n241 n242 xs171 xs172 xs173 xs174
  else
  if n238 ≠ 0 then
  j5 true n239 n240 n241 n242 xs171 xs172 xs173 xs174
  else
  (s15_v3 4 n239 n240 n241 n242 xs171 xs172 xs173 xs174).bind fun y99 =>
  (some y99.1).bind fun n275 =>
  (some y99.2.2.1.1).bind fun n276 =>
  (some y99.2.2.2.1.1).bind fun n277 =>
  (some y99.2.2.2.2.1.1).bind fun n278 =>
  (some y99.2.2.2.2.2.1.1).bind fun n279 =>
  (some y99.2.2.2.2.2.2.1).bind fun xs201 =>
  (some y99.2.2.2.2.2.2.2.1).bind fun xs202 =>
  (some y99.2.2.2.2.2.2.2.2.1).bind fun xs203 =>
  (some y99.2.2.2.2.2.2.2.2.2).bind fun xs204 =>
  if n275 ≠ 0 then
  j5 true n276 n277 n278 n279 xs201 xs202 xs203 xs204
  else
  (s15_v3 2 n276 n277 n278 n279 xs201 xs202 xs203 xs204).bind fun y100 =>
  (some y100.1).bind fun n280 =>
  (some y100.2.2.1.1).bind fun n281 =>
  (some y100.2.2.2.1.1).bind fun n282 =>
  (some y100.2.2.2.2.1.1).bind fun n283 =>
  (some y100.2.2.2.2.2.1.1).bind fun n284 =>
  (some y100.2.2.2.2.2.2.1).bind fun xs205 =>
  (some y100.2.2.2.2.2.2.2.1).bind fun xs206 =>
  (some y100.2.2.2.2.2.2.2.2.1).bind fun xs207 =>
  (some y100.2.2.2.2.2.2.2.2.2).bind fun xs208 =>
  j5 (decide (n280 ≠ 0)) n281 n282 n283 n284 xs205 xs206 xs207 xs208
def s9_j4 (b14 : Bool) (n111 : Int) (n112 : Int) (n113 : Int) (n114 : Int) (xs83 : List Int) (xs84 : List Int) (xs85 : List Int) (xs86 : List Int) : Option Bool := s9_j4F s9_j5 b14 n111 n112 n113 n114 xs83 xs84 xs85 xs86
def s9_j3F (j4 : Bool → Int → Int → Int → Int → (List Int) → (List Int) → (List Int) → (List Int) → Option Bool) (n106 : Int) (n107 : Int) (n108 : Int) (n109 : Int) (n110 : Int) (xs79 : List Int) (xs80 : List Int) (xs81 : List Int) (xs82 : List Int) : Option Bool :=
  if n106 ≠ 0 then
  j4 true n107 n108 n109 n110 xs79 xs80 xs81 xs82
  else
  j4 false n107 n108 n109 n110 xs79 xs80 xs81 xs82
def s9_j3 (n106 : Int) (n107 : Int) (n108 : Int) (n109 : Int) (n110 : Int) (xs79 : List Int) (xs80 : List Int) (xs81 : List Int) (xs82 : List Int) : Option Bool := s9_j3F s9_j4 n106 n107 n108 n109 n110 xs79 xs80 xs81 xs82
def s9F (j1 : Int → Option Bool) (j3 : Int → Int → Int → Int → Int → (List Int) → (List Int) → (List Int) → (List Int) → Option Bool) : Option Bool :=
  (s10 8 ([0, 1, 4] : List Int)).bind fun y69 =>
  match y69 with
  | .inl y70 =>
  j1 1
  | .inr y71 =>
  (some y71.2.2.1.1).bind fun n101 =>
  (some y71.2.2.2.1.1).bind fun n102 =>
  (some y71.2.2.2.2.1.1).bind fun n103 =>
  (some y71.2.2.2.2.2.1.1).bind fun n104 =>
  (some y71.2.2.2.2.2.2.1).bind fun xs75 =>
  (some y71.2.2.2.2.2.2.2.1).bind fun xs76 =>
  (some y71.2.2.2.2.2.2.2.2.1).bind fun xs77 =>
  (some y71.2.2.2.2.2.2.2.2.2).bind fun xs78 =>
  j3 0 n101 n102 n103 n104 xs75 xs76 xs77 xs78
def s9 : Option Bool := s9F s9_j1 s9_j3
/-! ### incipit/incipitlaw08.FreemapNone -/
def s8_j2F (n25 : Int) (b2 : Bool) : Option Bool :=
  if b2 = true then
  some false
  else
  (s9).bind fun b27 =>
  some b27
def s8_j2 (n25 : Int) (b2 : Bool) : Option Bool := s8_j2F n25 b2
def s8_j1F (j2 : Int → Bool → Option Bool) (n13 : Int) (b1 : Bool) : Option Bool :=
  if b1 = true then
  some false
  else
  (s12_v2).bind fun y28 =>
  (s14_v2 n13).bind fun y29 =>
  (s15_v2 n13).bind fun y31 =>
  (s16_v2).bind fun y33 =>
  (s18_v2).bind fun y35 =>
  (s32_v2 n13).bind fun y37 =>
  (s33_v2 n13).bind fun y39 =>
  (s29_v2).bind fun y41 =>
  (s28_v2).bind fun y43 =>
  (s17_v2).bind fun y45 =>
  (s31_v2).bind fun y46 =>
  (s30_v2 9).bind fun y48 =>
  (some y48.2.2.2).bind fun xs12 =>
  if (xs12.length : Int) ≠ 0 then
  j2 n13 true
  else
  (s37_v2).bind fun y50 =>
  j2 n13 false
def s8_j1 (n13 : Int) (b1 : Bool) : Option Bool := s8_j1F s8_j2 n13 b1
def s8F (j1 : Int → Bool → Option Bool) (n1 : Int) : Option Bool :=
  (s12).bind fun y3 =>
  (s14 n1).bind fun y4 =>
  (s15 n1).bind fun y6 =>
  (s16).bind fun y8 =>
  (s18).bind fun y10 =>
  (s32 n1).bind fun y12 =>
  (s33 n1).bind fun y14 =>
  (s29).bind fun y16 =>
  (s28).bind fun y18 =>
  (s17).bind fun y20 =>
  (s31).bind fun y21 =>
  (s30 9).bind fun y23 =>
  (some y23.2.2).bind fun xs6 =>
  if (xs6.length : Int) ≠ 0 then
  j1 n1 true
  else
  (s37).bind fun y25 =>
  j1 n1 false
def s8 (n1 : Int) : Option Bool := s8F s8_j1 n1
end
end Go.Proofs.YtofhmhbffdoiaaaDoor
