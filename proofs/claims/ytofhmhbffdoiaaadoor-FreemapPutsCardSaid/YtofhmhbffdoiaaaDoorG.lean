/- What the functions compute, in plain words of data. -/
import Derived.Test.YtofhmhbffdoiaaaDoorH
namespace Go.Proofs.YtofhmhbffdoiaaaDoor
noncomputable section
open Go Go.SX Go.VX
set_option maxRecDepth 100000
set_option linter.unusedVariables false
/-! ### incipit/freemap.may -/
def s38F (n4 : Int) : Option Bool :=
  if n4 ≥ 8 then
  some (decide (n4 ≤ 2048))
  else
  some false
def s38 (n4 : Int) : Option Bool := s38F n4
/-! ### incipit/freemap.list -/
def s39_j1F (r_l1 : Int → Int → (List Int) → Int → Int → Option Bool) (n10 : Int) (n11 : Int) (xs6 : List Int) (n12 : Int) (n13 : Int) (b2 : Bool) : Option Bool :=
  if b2 = true then
  some false
  else
  r_l1 n10 n11 xs6 n12 (IntKind.i64.wrap (n13 + 1))
def s39_j1 (r_l1 : Int → Int → (List Int) → Int → Int → Option Bool) (n10 : Int) (n11 : Int) (xs6 : List Int) (n12 : Int) (n13 : Int) (b2 : Bool) : Option Bool := s39_j1F r_l1 n10 n11 xs6 n12 n13 b2
def s39_l1B (j1 : Int → Int → (List Int) → Int → Int → Bool → Option Bool) (n6 : Int) (n7 : Int) (xs5 : List Int) (n8 : Int) (n9 : Int) : Option Bool :=
  if n9 < n8 then
  (getI xs5 n9).bind fun x1 =>
  if x1 ≤ n7 then
  j1 n6 x1 xs5 n8 n9 true
  else
  j1 n6 x1 xs5 n8 n9 (decide (x1 ≥ n6))
  else
  some true
def s39_l1 (n_ : Nat) (n6 : Int) (n7 : Int) (xs5 : List Int) (n8 : Int) (n9 : Int) : Option Bool := iterL (fun (r_ : (Int × Int × (List Int) × Int × Int) → Option Bool) (x : (Int × Int × (List Int) × Int × Int)) => s39_l1B (s39_j1 (fun n6 n7 xs5 n8 n9 => r_ (n6, n7, xs5, n8, n9))) x.1 x.2.1 x.2.2.1 x.2.2.2.1 x.2.2.2.2) n_ (n6, n7, xs5, n8, n9)
def s39F (l1 : Int → Int → (List Int) → Int → Int → Option Bool) (n5 : Int) (xs4 : List Int) : Option Bool :=
  l1 n5 (-1) xs4 (xs4.length : Int) 0
def s39 (n5 : Int) (xs4 : List Int) : Option Bool := s39F (s39_l1 FUEL) n5 xs4
/-! ### incipit/extent.New -/
def s40_j1F (n16 : Int) (b5 : Bool) : Option ((Unit × Unit) ⊕ ((Unit × Unit) × ((Int × Unit) × List Int))) :=
  if b5 = true then
  some (.inl ((), ()))
  else
  if (64 : Int) ≠ 0 then
  (repI (IntKind.i64.wrap (Int.tdiv (IntKind.i64.wrap ((IntKind.i64.wrap (n16 + 64)) - 1)) 64)) (0 : Int) 8).bind fun xs8 =>
  some (.inr (((), ()), ((n16, ()), xs8)))
  else none
def s40_j1 (n16 : Int) (b5 : Bool) : Option ((Unit × Unit) ⊕ ((Unit × Unit) × ((Int × Unit) × List Int))) := s40_j1F n16 b5
def s40F (j1 : Int → Bool → Option ((Unit × Unit) ⊕ ((Unit × Unit) × ((Int × Unit) × List Int)))) (n15 : Int) : Option ((Unit × Unit) ⊕ ((Unit × Unit) × ((Int × Unit) × List Int))) :=
  if n15 < 1 then
  j1 n15 true
  else
  j1 n15 (decide (n15 > 2048))
def s40 (n15 : Int) : Option ((Unit × Unit) ⊕ ((Unit × Unit) × ((Int × Unit) × List Int))) := s40F s40_j1 n15
def s40_v2 (n15 : Int) : Option ((Unit × Unit) × ((Int × Unit) × List Int)) := (s40 n15).bind sndR
/-! ### (*incipit/extent.Set).none -/
def s72F (n25 : Int) (xs14 : List Int) : Option (Bool × ((Int × Unit) × List Int)) :=
  some (decide (n25 = 0), ((n25, ()), xs14))
def s72 (n25 : Int) (xs14 : List Int) : Option (Bool × ((Int × Unit) × List Int)) := s72F n25 xs14
/-! ### (*incipit/extent.Set).may -/
def s66_j1F (b7 : Bool) (n27 : Int) (xs16 : List Int) : Option (Int × ((Int × Unit) × List Int)) :=
  if b7 = true then
  some (1, ((n27, ()), xs16))
  else
  some (0, ((n27, ()), xs16))
def s66_j1 (b7 : Bool) (n27 : Int) (xs16 : List Int) : Option (Int × ((Int × Unit) × List Int)) := s66_j1F b7 n27 xs16
def s66F (j1 : Bool → Int → (List Int) → Option (Int × ((Int × Unit) × List Int))) (n23 : Int) (n24 : Int) (xs13 : List Int) : Option (Int × ((Int × Unit) × List Int)) :=
  (s72 n24 xs13).bind fun y2 =>
  (some y2.1).bind fun b6 =>
  (some y2.2.1.1).bind fun n26 =>
  (some y2.2.2).bind fun xs15 =>
  if b6 = true then
  some (2, ((n26, ()), xs15))
  else
  if n23 < 0 then
  j1 true n26 xs15
  else
  j1 (decide (n23 ≥ n26)) n26 xs15
def s66 (n23 : Int) (n24 : Int) (xs13 : List Int) : Option (Int × ((Int × Unit) × List Int)) := s66F s66_j1 n23 n24 xs13
/-! ### incipit/extent.bit -/
def s67F (n34 : Int) : Option Int :=
  if (64 : Int) ≠ 0 then
  if (0 : Int) ≤ (IntKind.u64.wrap (Int.tmod n34 64)) then
  some (shlI .u64 1 (IntKind.u64.wrap (Int.tmod n34 64)))
  else none
  else none
def s67 (n34 : Int) : Option Int := s67F n34
/-! ### (*incipit/extent.Set).Has -/
def s56F (n30 : Int) (n31 : Int) (xs18 : List Int) : Option (Bool × ((Int × Unit) × List Int)) :=
  (s66 n30 n31 xs18).bind fun y4 =>
  (some y4.1).bind fun n32 =>
  (some y4.2.1.1).bind fun n33 =>
  (some y4.2.2).bind fun xs19 =>
  if n32 = 0 then
  if (64 : Int) ≠ 0 then
  if 0 ≤ (IntKind.i64.wrap (Int.tdiv n30 64)) ∧ (IntKind.i64.wrap (Int.tdiv n30 64)) < (xs19.length : Int) then
  (getI xs19 (IntKind.i64.wrap (Int.tdiv n30 64))).bind fun x3 =>
  (s67 n30).bind fun n35 =>
  some (decide ((andI .u64 x3 n35) ≠ 0), ((n33, ()), xs19))
  else none
  else none
  else
  some (false, ((n33, ()), xs19))
def s56 (n30 : Int) (n31 : Int) (xs18 : List Int) : Option (Bool × ((Int × Unit) × List Int)) := s56F n30 n31 xs18
/-! ### (*incipit/extent.Set).Add -/
def s41F (n21 : Int) (n22 : Int) (xs12 : List Int) : Option (Int × ((Int × Unit) × List Int)) :=
  (s66 n21 n22 xs12).bind fun y3 =>
  (some y3.1).bind fun n28 =>
  (some y3.2.1.1).bind fun n29 =>
  (some y3.2.2).bind fun xs17 =>
  if n28 ≠ 0 then
  some (n28, ((n29, ()), xs17))
  else
  (s56 n21 n29 xs17).bind fun y5 =>
  (some y5.1).bind fun b8 =>
  (some y5.2.1.1).bind fun n36 =>
  (some y5.2.2).bind fun xs20 =>
  if b8 = true then
  some (70, ((n36, ()), xs20))
  else
  if (64 : Int) ≠ 0 then
  if 0 ≤ (IntKind.i64.wrap (Int.tdiv n21 64)) ∧ (IntKind.i64.wrap (Int.tdiv n21 64)) < (xs20.length : Int) then
  (getI xs20 (IntKind.i64.wrap (Int.tdiv n21 64))).bind fun x4 =>
  (s67 n21).bind fun n37 =>
  if 0 ≤ (IntKind.i64.wrap (Int.tdiv n21 64)) ∧ (IntKind.i64.wrap (Int.tdiv n21 64)) < (xs20.length : Int) then
  (setI xs20 (IntKind.i64.wrap (Int.tdiv n21 64)) (orI .u64 x4 n37)).bind fun xs21 =>
  some (0, ((n36, ()), xs21))
  else none
  else none
  else none
def s41 (n21 : Int) (n22 : Int) (xs12 : List Int) : Option (Int × ((Int × Unit) × List Int)) := s41F n21 n22 xs12
/-! ### slices.Clone[[]uint64,uint64] -/
def s75_v2F (xs31 : List Int) : Option (Unit × List Int) :=
  (appI ([] : List Int) xs31 8).bind fun xs32 =>
  some ((), xs32)
def s75_v2 (xs31 : List Int) : Option (Unit × List Int) := s75_v2F xs31
/-! ### slices.Clone[[]uint64,uint64] -/
def s75_v3F (xs33 : List Int) : Option (Unit × List Int) :=
  some ((), [])
def s75_v3 (xs33 : List Int) : Option (Unit × List Int) := s75_v3F xs33
/-! ### slices.Clone[[]uint64,uint64] -/
def s75 (xs : List Int) : Option (Unit × List Int) := if xs.length = 0 then s75_v3 [] else s75_v2 xs
/-! ### (*incipit/extent.Set).Clone -/
def s65F (n46 : Int) (xs27 : List Int) : Option ((Unit × ((Int × Unit) × List Int)) ⊕ (Unit × ((Int × Unit) × List Int × (Int × Unit) × List Int))) :=
  (s72 n46 xs27).bind fun y8 =>
  (some y8.1).bind fun b9 =>
  (some y8.2.1.1).bind fun n47 =>
  (some y8.2.2).bind fun xs28 =>
  if b9 = true then
  some (.inl ((), ((n47, ()), xs28)))
  else
  (s75 xs28).bind fun y9 =>
  (some y9.2).bind fun xs35 =>
  some (.inr ((), ((n47, ()), xs28, (n47, ()), xs35)))
def s65 (n46 : Int) (xs27 : List Int) : Option ((Unit × ((Int × Unit) × List Int)) ⊕ (Unit × ((Int × Unit) × List Int × (Int × Unit) × List Int))) := s65F n46 xs27
def s65_v2 (n46 : Int) (xs27 : List Int) : Option (Unit × ((Int × Unit) × List Int × (Int × Unit) × List Int)) := (s65 n46 xs27).bind sndR
/-! ### (*incipit/extent.Set).Not -/
def s42_j1F (n54 : Int) (xs42 : List Int) (n55 : Int) (xs43 : List Int) : Option (Unit × ((Int × Unit) × List Int × (Int × Unit) × List Int)) :=
  some ((), ((n54, ()), xs42, (n55, ()), xs43))
def s42_j1 (n54 : Int) (xs42 : List Int) (n55 : Int) (xs43 : List Int) : Option (Unit × ((Int × Unit) × List Int × (Int × Unit) × List Int)) := s42_j1F n54 xs42 n55 xs43
def s42_l1B (r_l1 : Int → Int → Int → (List Int) → Int → (List Int) → Option (Unit × ((Int × Unit) × List Int × (Int × Unit) × List Int))) (j1 : Int → (List Int) → Int → (List Int) → Option (Unit × ((Int × Unit) × List Int × (Int × Unit) × List Int))) (n50 : Int) (n51 : Int) (n52 : Int) (xs38 : List Int) (n53 : Int) (xs39 : List Int) : Option (Unit × ((Int × Unit) × List Int × (Int × Unit) × List Int)) :=
  if n51 < n50 then
  if 0 ≤ n51 ∧ n51 < (xs39.length : Int) then
  (getI xs39 n51).bind fun x6 =>
  if 0 ≤ n51 ∧ n51 < (xs39.length : Int) then
  (setI xs39 n51 (cplI .u64 x6)).bind fun xs40 =>
  r_l1 n50 (IntKind.i64.wrap (n51 + 1)) n52 xs38 n53 xs40
  else none
  else none
  else
  if (64 : Int) ≠ 0 then
  if (Int.tmod n53 64) > 0 then
  if 0 ≤ (IntKind.i64.wrap ((xs39.length : Int) - 1)) ∧ (IntKind.i64.wrap ((xs39.length : Int) - 1)) < (xs39.length : Int) then
  (getI xs39 (IntKind.i64.wrap ((xs39.length : Int) - 1))).bind fun x7 =>
  if (0 : Int) ≤ (IntKind.u64.wrap (Int.tmod n53 64)) then
  if 0 ≤ (IntKind.i64.wrap ((xs39.length : Int) - 1)) ∧ (IntKind.i64.wrap ((xs39.length : Int) - 1)) < (xs39.length : Int) then
  (setI xs39 (IntKind.i64.wrap ((xs39.length : Int) - 1)) (andI .u64 x7 (IntKind.u64.wrap ((shlI .u64 1 (IntKind.u64.wrap (Int.tmod n53 64))) - 1)))).bind fun xs41 =>
  j1 n52 xs38 n53 xs41
  else none
  else none
  else none
  else
  j1 n52 xs38 n53 xs39
  else none
def s42_l1 (n_ : Nat) (n50 : Int) (n51 : Int) (n52 : Int) (xs38 : List Int) (n53 : Int) (xs39 : List Int) : Option (Unit × ((Int × Unit) × List Int × (Int × Unit) × List Int)) := iterL (fun (r_ : ((Unit × Int × Int) × ((Int × Unit) × (List Int) × (Int × Unit) × (List Int))) → Option (Unit × ((Int × Unit) × List Int × (Int × Unit) × List Int))) (x : ((Unit × Int × Int) × ((Int × Unit) × (List Int) × (Int × Unit) × (List Int)))) => s42_l1B (fun n50 n51 n52 xs38 n53 xs39 => r_ (((), n50, n51), ((n52, ()), xs38, (n53, ()), xs39))) s42_j1 x.1.2.1 x.1.2.2 x.2.1.1 x.2.2.1 x.2.2.2.1.1 x.2.2.2.2) n_ (((), n50, n51), ((n52, ()), xs38, (n53, ()), xs39))
def s42F (l1 : Int → Int → Int → (List Int) → Int → (List Int) → Option (Unit × ((Int × Unit) × List Int × (Int × Unit) × List Int))) (n45 : Int) (xs26 : List Int) : Option (Unit × ((Int × Unit) × List Int × (Int × Unit) × List Int)) :=
  (s65_v2 n45 xs26).bind fun y10 =>
  (some y10.2.1.1).bind fun n48 =>
  (some y10.2.2.1).bind fun xs36 =>
  (some y10.2.2.2.1.1).bind fun n49 =>
  (some y10.2.2.2.2).bind fun xs37 =>
  l1 (xs37.length : Int) 0 n48 xs36 n49 xs37
def s42 (n45 : Int) (xs26 : List Int) : Option (Unit × ((Int × Unit) × List Int × (Int × Unit) × List Int)) := s42F (s42_l1 FUEL) n45 xs26
/-! ### (*incipit/extent.Set).Size -/
def s50F (n63 : Int) (xs51 : List Int) : Option (Int × ((Int × Unit) × List Int)) :=
  (s72 n63 xs51).bind fun y13 =>
  (some y13.1).bind fun b10 =>
  (some y13.2.1.1).bind fun n64 =>
  (some y13.2.2).bind fun xs52 =>
  if b10 = true then
  some (0, ((n64, ()), xs52))
  else
  some (n64, ((n64, ()), xs52))
def s50 (n63 : Int) (xs51 : List Int) : Option (Int × ((Int × Unit) × List Int)) := s50F n63 xs51
/-! ### (*incipit/freemap.Map).none -/
def s68F (n61 : Int) (n62 : Int) (xs49 : List Int) (xs50 : List Int) : Option (Unit × ((Unit × Unit × Unit × Unit) × (Int × Unit) × (Int × Unit) × List Int × List Int × (Int × Unit) × List Int)) :=
  (s50 n61 xs49).bind fun y14 =>
  (some y14.1).bind fun n65 =>
  (some y14.2.1.1).bind fun n66 =>
  (some y14.2.2).bind fun xs53 =>
  (s40_v2 n65).bind fun y15 =>
  (some y15.2.1.1).bind fun n67 =>
  (some y15.2.2).bind fun xs54 =>
  some ((), (((), (), (), ()), (n66, ()), (n62, ()), xs53, xs50, (n67, ()), xs54))
def s68 (n61 : Int) (n62 : Int) (xs49 : List Int) (xs50 : List Int) : Option (Unit × ((Unit × Unit × Unit × Unit) × (Int × Unit) × (Int × Unit) × List Int × List Int × (Int × Unit) × List Int)) := s68F n61 n62 xs49 xs50
/-! ### (*incipit/freemap.Map).settle -/
def s43F (n58 : Int) (xs46 : List Int) : Option (Unit × ((Unit × Unit × Unit × Unit) × (Int × Unit) × List Int × (Int × Unit) × (Int × Unit) × (Int × Unit) × List Int × List Int × List Int)) :=
  (s65_v2 n58 xs46).bind fun y12 =>
  (some y12.2.1.1).bind fun n59 =>
  (some y12.2.2.1).bind fun xs47 =>
  (some y12.2.2.2.1.1).bind fun n60 =>
  (some y12.2.2.2.2).bind fun xs48 =>
  (s68 n59 n60 xs47 xs48).bind fun y16 =>
  (some y16.2.2.1.1).bind fun n68 =>
  (some y16.2.2.2.1.1).bind fun n69 =>
  (some y16.2.2.2.2.1).bind fun xs55 =>
  (some y16.2.2.2.2.2.1).bind fun xs56 =>
  (some y16.2.2.2.2.2.2.1.1).bind fun n70 =>
  (some y16.2.2.2.2.2.2.2).bind fun xs57 =>
  (s68 n68 n69 xs55 xs56).bind fun y17 =>
  (some y17.2.2.1.1).bind fun n71 =>
  (some y17.2.2.2.1.1).bind fun n72 =>
  (some y17.2.2.2.2.1).bind fun xs58 =>
  (some y17.2.2.2.2.2.1).bind fun xs59 =>
  (some y17.2.2.2.2.2.2.1.1).bind fun n73 =>
  (some y17.2.2.2.2.2.2.2).bind fun xs60 =>
  some ((), (((), (), (), ()), (n71, ()), xs58, (n70, ()), (n73, ()), (n72, ()), xs57, xs60, xs59))
def s43 (n58 : Int) (xs46 : List Int) : Option (Unit × ((Unit × Unit × Unit × Unit) × (Int × Unit) × List Int × (Int × Unit) × (Int × Unit) × (Int × Unit) × List Int × List Int × List Int)) := s43F n58 xs46
/-! ### incipit/freemap.Open -/
def s10_l1B (r_l1 : (List Int) → Int → Int → Int → (List Int) → Option ((Unit × Unit) ⊕ ((Unit × Unit) × ((Unit × Unit × Unit × Unit) × (Int × Unit) × (Int × Unit) × (Int × Unit) × (Int × Unit) × List Int × List Int × List Int × List Int)))) (xs23 : List Int) (n40 : Int) (n41 : Int) (n42 : Int) (xs24 : List Int) : Option ((Unit × Unit) ⊕ ((Unit × Unit) × ((Unit × Unit × Unit × Unit) × (Int × Unit) × (Int × Unit) × (Int × Unit) × (Int × Unit) × List Int × List Int × List Int × List Int))) :=
  if n41 < n40 then
  (getI xs23 n41).bind fun x5 =>
  (s41 x5 n42 xs24).bind fun y7 =>
  (some y7.1).bind fun n43 =>
  (some y7.2.1.1).bind fun n44 =>
  (some y7.2.2).bind fun xs25 =>
  r_l1 xs23 n40 (IntKind.i64.wrap (n41 + 1)) n44 xs25
  else
  (s42 n42 xs24).bind fun y11 =>
  (some y11.2.1.1).bind fun n56 =>
  (some y11.2.2.1).bind fun xs44 =>
  (some y11.2.2.2.1.1).bind fun n57 =>
  (some y11.2.2.2.2).bind fun xs45 =>
  (s43 n57 xs45).bind fun y18 =>
  (some y18.2.2.1.1).bind fun n74 =>
  (some y18.2.2.2.1).bind fun xs61 =>
  (some y18.2.2.2.2.1.1).bind fun n75 =>
  (some y18.2.2.2.2.2.1.1).bind fun n76 =>
  (some y18.2.2.2.2.2.2.1.1).bind fun n77 =>
  (some y18.2.2.2.2.2.2.2.1).bind fun xs62 =>
  (some y18.2.2.2.2.2.2.2.2.1).bind fun xs63 =>
  (some y18.2.2.2.2.2.2.2.2.2).bind fun xs64 =>
  some (.inr (((), ()), (((), (), (), ()), (n74, ()), (n75, ()), (n76, ()), (n77, ()), xs61, xs62, xs63, xs64)))
def s10_l1 (n_ : Nat) (xs23 : List Int) (n40 : Int) (n41 : Int) (n42 : Int) (xs24 : List Int) : Option ((Unit × Unit) ⊕ ((Unit × Unit) × ((Unit × Unit × Unit × Unit) × (Int × Unit) × (Int × Unit) × (Int × Unit) × (Int × Unit) × List Int × List Int × List Int × List Int))) := iterL (fun (r_ : ((Unit × (List Int) × Int × Int) × ((Int × Unit) × (List Int))) → Option ((Unit × Unit) ⊕ ((Unit × Unit) × ((Unit × Unit × Unit × Unit) × (Int × Unit) × (Int × Unit) × (Int × Unit) × (Int × Unit) × List Int × List Int × List Int × List Int)))) (x : ((Unit × (List Int) × Int × Int) × ((Int × Unit) × (List Int)))) => s10_l1B (fun xs23 n40 n41 n42 xs24 => r_ (((), xs23, n40, n41), ((n42, ()), xs24))) x.1.2.1 x.1.2.2.1 x.1.2.2.2 x.2.1.1 x.2.2) n_ (((), xs23, n40, n41), ((n42, ()), xs24))
def s10_j1F (l1 : (List Int) → Int → Int → Int → (List Int) → Option ((Unit × Unit) ⊕ ((Unit × Unit) × ((Unit × Unit × Unit × Unit) × (Int × Unit) × (Int × Unit) × (Int × Unit) × (Int × Unit) × List Int × List Int × List Int × List Int)))) (n14 : Int) (xs7 : List Int) (b4 : Bool) : Option ((Unit × Unit) ⊕ ((Unit × Unit) × ((Unit × Unit × Unit × Unit) × (Int × Unit) × (Int × Unit) × (Int × Unit) × (Int × Unit) × List Int × List Int × List Int × List Int))) :=
  if b4 = true then
  some (.inl ((), ()))
  else
  (s40_v2 n14).bind fun y1 =>
  (some y1.2.1.1).bind fun n17 =>
  (some y1.2.2).bind fun xs9 =>
  l1 xs7 (xs7.length : Int) 0 n17 xs9
def s10_j1 (n14 : Int) (xs7 : List Int) (b4 : Bool) : Option ((Unit × Unit) ⊕ ((Unit × Unit) × ((Unit × Unit × Unit × Unit) × (Int × Unit) × (Int × Unit) × (Int × Unit) × (Int × Unit) × List Int × List Int × List Int × List Int))) := s10_j1F (s10_l1 FUEL) n14 xs7 b4
def s10F (j1 : Int → (List Int) → Bool → Option ((Unit × Unit) ⊕ ((Unit × Unit) × ((Unit × Unit × Unit × Unit) × (Int × Unit) × (Int × Unit) × (Int × Unit) × (Int × Unit) × List Int × List Int × List Int × List Int)))) (n3 : Int) (xs3 : List Int) : Option ((Unit × Unit) ⊕ ((Unit × Unit) × ((Unit × Unit × Unit × Unit) × (Int × Unit) × (Int × Unit) × (Int × Unit) × (Int × Unit) × List Int × List Int × List Int × List Int))) :=
  (s38 n3).bind fun b1 =>
  if ¬ b1 = true then
  j1 n3 xs3 true
  else
  (s39 n3 xs3).bind fun b3 =>
  j1 n3 xs3 (decide (¬ b3 = true))
def s10 (n3 : Int) (xs3 : List Int) : Option ((Unit × Unit) ⊕ ((Unit × Unit) × ((Unit × Unit × Unit × Unit) × (Int × Unit) × (Int × Unit) × (Int × Unit) × (Int × Unit) × List Int × List Int × List Int × List Int))) := s10F s10_j1 n3 xs3
/-! ### (*incipit/freemap.Map).made -/
def s45F : Option Unit :=
  some ()
def s45 : Option Unit := s45F
/-! ### (*incipit/freemap.Map).AllocRun -/
def s14F (n88 : Int) : Option (Unit × Unit) :=
  (s45).bind fun y22 =>
  some ((), ())
def s14 (n88 : Int) : Option (Unit × Unit) := s14F n88
/-! ### (*incipit/freemap.Map).Alloc -/
def s12F : Option (Unit × Unit) :=
  (s14 1).bind fun y23 =>
  some ((), ())
def s12 : Option (Unit × Unit) := s12F
/-! ### (*incipit/freemap.Map).made -/
def s45_v2F (n102 : Int) (n103 : Int) (n104 : Int) (n105 : Int) (xs85 : List Int) (xs86 : List Int) (xs87 : List Int) (xs88 : List Int) : Option (Unit × ((Unit × Unit × Unit × Unit) × (Int × Unit) × (Int × Unit) × (Int × Unit) × (Int × Unit) × List Int × List Int × List Int × List Int)) :=
  some ((), (((), (), (), ()), (n102, ()), (n103, ()), (n104, ()), (n105, ()), xs85, xs86, xs87, xs88))
def s45_v2 (n102 : Int) (n103 : Int) (n104 : Int) (n105 : Int) (xs85 : List Int) (xs86 : List Int) (xs87 : List Int) (xs88 : List Int) : Option (Unit × ((Unit × Unit × Unit × Unit) × (Int × Unit) × (Int × Unit) × (Int × Unit) × (Int × Unit) × List Int × List Int × List Int × List Int)) := s45_v2F n102 n103 n104 n105 xs85 xs86 xs87 xs88
/-! ### (*incipit/extent.Set).Runs -/
def s69F (n115 : Int) (xs97 : List Int) : Option ((Unit × Unit) × ((Int × Unit) × List Int × Unit)) :=
  some (((), ()), ((n115, ()), xs97, ()))
def s69 (n115 : Int) (xs97 : List Int) : Option ((Unit × Unit) × ((Int × Unit) × List Int × Unit)) := s69F n115 xs97
/-! ### math/bits.TrailingZeros64 -/
def s77F (n134 : Int) : Option Int :=
  if n134 = 0 then
  some 64
  else
  if (0 : Int) ≤ 58 then
  (getI TAB0 (shrI .u64 (IntKind.u64.wrap ((andI .u64 n134 (IntKind.u64.wrap (0 - n134))) * 285870213051353865)) 58)).bind fun x9 =>
  some (IntKind.i64.wrap x9)
  else none
def s77 (n134 : Int) : Option Int := s77F n134
/-! ### (*incipit/extent.Set).First -/
def s71_l1B (r_l1 : Int → Int → Int → (List Int) → Option (Int × ((Int × Unit) × List Int))) (n131 : Int) (n132 : Int) (n133 : Int) (xs109 : List Int) : Option (Int × ((Int × Unit) × List Int)) :=
  if n132 < (xs109.length : Int) then
  if 0 ≤ n132 ∧ n132 < (xs109.length : Int) then
  (getI xs109 n132).bind fun x8 =>
  if (andI .u64 x8 n131) ≠ 0 then
  (s77 (andI .u64 x8 n131)).bind fun n135 =>
  some ((IntKind.i64.wrap ((IntKind.i64.wrap (n132 * 64)) + n135)), ((n133, ()), xs109))
  else
  r_l1 18446744073709551615 (IntKind.i64.wrap (n132 + 1)) n133 xs109
  else none
  else
  some (-1, ((n133, ()), xs109))
def s71_l1 (n_ : Nat) (n131 : Int) (n132 : Int) (n133 : Int) (xs109 : List Int) : Option (Int × ((Int × Unit) × List Int)) := iterL (fun (r_ : ((Unit × Int × Int) × ((Int × Unit) × (List Int))) → Option (Int × ((Int × Unit) × List Int))) (x : ((Unit × Int × Int) × ((Int × Unit) × (List Int)))) => s71_l1B (fun n131 n132 n133 xs109 => r_ (((), n131, n132), ((n133, ()), xs109))) x.1.2.1 x.1.2.2 x.2.1.1 x.2.2) n_ (((), n131, n132), ((n133, ()), xs109))
def s71_j1F (l1 : Int → Int → Int → (List Int) → Option (Int × ((Int × Unit) × List Int))) (n129 : Int) (b14 : Bool) (n130 : Int) (xs108 : List Int) : Option (Int × ((Int × Unit) × List Int)) :=
  if b14 = true then
  some (-1, ((n130, ()), xs108))
  else
  if (64 : Int) ≠ 0 then
  if (0 : Int) ≤ (IntKind.u64.wrap (Int.tmod (if (0 : Int) > n129 then 0 else n129) 64)) then
  if (64 : Int) ≠ 0 then
  l1 (shlI .u64 18446744073709551615 (IntKind.u64.wrap (Int.tmod (if (0 : Int) > n129 then 0 else n129) 64))) (IntKind.i64.wrap (Int.tdiv (if (0 : Int) > n129 then 0 else n129) 64)) n130 xs108
  else none
  else none
  else none
def s71_j1 (n129 : Int) (b14 : Bool) (n130 : Int) (xs108 : List Int) : Option (Int × ((Int × Unit) × List Int)) := s71_j1F (s71_l1 FUEL) n129 b14 n130 xs108
def s71F (j1 : Int → Bool → Int → (List Int) → Option (Int × ((Int × Unit) × List Int))) (n126 : Int) (n127 : Int) (xs106 : List Int) : Option (Int × ((Int × Unit) × List Int)) :=
  (s72 n127 xs106).bind fun y29 =>
  (some y29.1).bind fun b13 =>
  (some y29.2.1.1).bind fun n128 =>
  (some y29.2.2).bind fun xs107 =>
  if b13 = false then
  j1 n126 (decide (n126 ≥ n128)) n128 xs107
  else
  j1 n126 true n128 xs107
def s71 (n126 : Int) (n127 : Int) (xs106 : List Int) : Option (Int × ((Int × Unit) × List Int)) := s71F s71_j1 n126 n127 xs106
/-! ### (*incipit/extent.Set).Runs$1 -/
def s76_j2F (r_l1 : Int → Int → (List Int) → Int → (List Int) → Option (Tr (Int × Int) (Unit × (Int × Unit) × List Int))) (n147 : Int) (b15 : Bool) (n148 : Int) (xs116 : List Int) (n149 : Int) (xs117 : List Int) : Option (Tr (Int × Int) (Unit × (Int × Unit) × List Int)) :=
  if b15 = true then
  some (.done ((), (n148, ()), xs116))
  else
  (s71 n147 n148 xs116).bind fun y32 =>
  (some y32.1).bind fun n150 =>
  (some y32.2.1.1).bind fun n151 =>
  (some y32.2.2).bind fun xs118 =>
  r_l1 n150 n151 xs118 n149 xs117
def s76_j2 (r_l1 : Int → Int → (List Int) → Int → (List Int) → Option (Tr (Int × Int) (Unit × (Int × Unit) × List Int))) (n147 : Int) (b15 : Bool) (n148 : Int) (xs116 : List Int) (n149 : Int) (xs117 : List Int) : Option (Tr (Int × Int) (Unit × (Int × Unit) × List Int)) := s76_j2F r_l1 n147 b15 n148 xs116 n149 xs117
def s76_j1F (j2 : Int → Bool → Int → (List Int) → Int → (List Int) → Option (Tr (Int × Int) (Unit × (Int × Unit) × List Int))) (n143 : Int) (n144 : Int) (n145 : Int) (xs114 : List Int) (n146 : Int) (xs115 : List Int) : Option (Tr (Int × Int) (Unit × (Int × Unit) × List Int)) :=
  consT (n143, (IntKind.i64.wrap (n144 - n143))) (
  j2 n144 true n145 xs114 n146 xs115)
  (j2 n144 false n145 xs114 n146 xs115)
def s76_j1 (r_l1 : Int → Int → (List Int) → Int → (List Int) → Option (Tr (Int × Int) (Unit × (Int × Unit) × List Int))) (n143 : Int) (n144 : Int) (n145 : Int) (xs114 : List Int) (n146 : Int) (xs115 : List Int) : Option (Tr (Int × Int) (Unit × (Int × Unit) × List Int)) := s76_j1F (s76_j2 r_l1) n143 n144 n145 xs114 n146 xs115
def s76_l1B (j1 : Int → Int → Int → (List Int) → Int → (List Int) → Option (Tr (Int × Int) (Unit × (Int × Unit) × List Int))) (n138 : Int) (n139 : Int) (xs111 : List Int) (n140 : Int) (xs112 : List Int) : Option (Tr (Int × Int) (Unit × (Int × Unit) × List Int)) :=
  if n138 ≥ 0 then
  (s71 n138 n140 xs112).bind fun y31 =>
  (some y31.1).bind fun n141 =>
  (some y31.2.1.1).bind fun n142 =>
  (some y31.2.2).bind fun xs113 =>
  if n141 < 0 then
  j1 n138 n139 n139 xs111 n142 xs113
  else
  j1 n138 n141 n139 xs111 n142 xs113
  else
  some (.done ((), (n139, ()), xs111))
def s76_l1 (n_ : Nat) (n138 : Int) (n139 : Int) (xs111 : List Int) (n140 : Int) (xs112 : List Int) : Option (Tr (Int × Int) (Unit × (Int × Unit) × List Int)) := iterL (fun (r_ : ((Unit × Unit × Unit × Int) × (Unit × (Int × Unit) × (List Int) × (Int × Unit) × (List Int))) → Option (Tr (Int × Int) (Unit × (Int × Unit) × List Int))) (x : ((Unit × Unit × Unit × Int) × (Unit × (Int × Unit) × (List Int) × (Int × Unit) × (List Int)))) => s76_l1B (s76_j1 (fun n138 n139 xs111 n140 xs112 => r_ (((), (), (), n138), ((), (n139, ()), xs111, (n140, ()), xs112)))) x.1.2.2.2 x.2.2.1.1 x.2.2.2.1 x.2.2.2.2.1.1 x.2.2.2.2.2) n_ (((), (), (), n138), ((), (n139, ()), xs111, (n140, ()), xs112))
def s76F (l1 : Int → Int → (List Int) → Int → (List Int) → Option (Tr (Int × Int) (Unit × (Int × Unit) × List Int))) (n123 : Int) (xs103 : List Int) : Option (Tr (Int × Int) (Unit × (Int × Unit) × List Int)) :=
  (s42 n123 xs103).bind fun y28 =>
  (some y28.2.1.1).bind fun n124 =>
  (some y28.2.2.1).bind fun xs104 =>
  (some y28.2.2.2.1.1).bind fun n125 =>
  (some y28.2.2.2.2).bind fun xs105 =>
  (s71 0 n124 xs104).bind fun y30 =>
  (some y30.1).bind fun n136 =>
  (some y30.2.1.1).bind fun n137 =>
  (some y30.2.2).bind fun xs110 =>
  l1 n136 n137 xs110 n125 xs105
def s76 (n123 : Int) (xs103 : List Int) : Option (Tr (Int × Int) (Unit × (Int × Unit) × List Int)) := s76F (s76_l1 FUEL) n123 xs103
/-! ### (*incipit/freemap.Map).row -/
def s46_j2F (n166 : Int) (n167 : Int) (n168 : Int) (n169 : Int) (xs127 : List Int) (xs128 : List Int) (xs129 : List Int) (xs130 : List Int) (n170 : Int) : Option (Int × ((Unit × Unit × Unit × Unit) × (Int × Unit) × (Int × Unit) × (Int × Unit) × (Int × Unit) × List Int × List Int × List Int × List Int)) :=
  some (n170, (((), (), (), ()), (n166, ()), (n167, ()), (n168, ()), (n169, ()), xs127, xs128, xs129, xs130))
def s46_j2 (n166 : Int) (n167 : Int) (n168 : Int) (n169 : Int) (xs127 : List Int) (xs128 : List Int) (xs129 : List Int) (xs130 : List Int) (n170 : Int) : Option (Int × ((Unit × Unit × Unit × Unit) × (Int × Unit) × (Int × Unit) × (Int × Unit) × (Int × Unit) × List Int × List Int × List Int × List Int)) := s46_j2F n166 n167 n168 n169 xs127 xs128 xs129 xs130 n170
def s46_r1B (r_r1 : Int → Int → Int → (List Int) → (List Int) → (List Int) → Int → Int → Option (Int × ((Unit × Unit × Unit × Unit) × (Int × Unit) × (Int × Unit) × (Int × Unit) × (Int × Unit) × List Int × List Int × List Int × List Int))) (j2 : Int → Int → Int → Int → (List Int) → (List Int) → (List Int) → (List Int) → Int → Option (Int × ((Unit × Unit × Unit × Unit) × (Int × Unit) × (Int × Unit) × (Int × Unit) × (Int × Unit) × List Int × List Int × List Int × List Int))) (n158 : Int) (n159 : Int) (n157 : Int) (xs122 : List Int) (n152 : Int) (n153 : Int) (n154 : Int) (xs119 : List Int) (xs120 : List Int) (xs121 : List Int) (n155 : Int) (n156 : Int) : Option (Int × ((Unit × Unit × Unit × Unit) × (Int × Unit) × (Int × Unit) × (Int × Unit) × (Int × Unit) × List Int × List Int × List Int × List Int)) :=
  if n159 < n155 then
  r_r1 n152 n153 n154 xs119 xs120 xs121 n155 n156
  else
  j2 n157 n152 n153 n154 xs122 xs119 xs120 xs121 n158
def s46_r1D (j2 : Int → Int → Int → Int → (List Int) → (List Int) → (List Int) → (List Int) → Int → Option (Int × ((Unit × Unit × Unit × Unit) × (Int × Unit) × (Int × Unit) × (Int × Unit) × (Int × Unit) × List Int × List Int × List Int × List Int))) (n160 : Int) (xs123 : List Int) (n161 : Int) (n162 : Int) (n163 : Int) (xs124 : List Int) (xs125 : List Int) (xs126 : List Int) (n164 : Int) (n165 : Int) : Option (Int × ((Unit × Unit × Unit × Unit) × (Int × Unit) × (Int × Unit) × (Int × Unit) × (Int × Unit) × List Int × List Int × List Int × List Int)) :=
  j2 n160 n161 n162 n163 xs123 xs124 xs125 xs126 n165
def s46_r1 (tr_ : (Tr (Int × Int) (Unit × (Int × Unit) × (List Int)))) (n152 : Int) (n153 : Int) (n154 : Int) (xs119 : List Int) (xs120 : List Int) (xs121 : List Int) (n155 : Int) (n156 : Int) : Option (Int × ((Unit × Unit × Unit × Unit) × (Int × Unit) × (Int × Unit) × (Int × Unit) × (Int × Unit) × List Int × List Int × List Int × List Int)) := iterT (fun (d_ : (Unit × (Int × Unit) × (List Int))) (y_ : ((Unit × Unit × Unit × Unit) × (Int × Unit) × (Int × Unit) × (Int × Unit) × (List Int) × (List Int) × (List Int) × Int × Int)) => s46_r1D s46_j2 d_.2.1.1 d_.2.2 y_.2.1.1 y_.2.2.1.1 y_.2.2.2.1.1 y_.2.2.2.2.1 y_.2.2.2.2.2.1 y_.2.2.2.2.2.2.1 y_.2.2.2.2.2.2.2.1 y_.2.2.2.2.2.2.2.2) (fun (v_ : (Int × Int)) (t_ : (Unit × (Int × Unit) × (List Int))) (r_ : ((Unit × Unit × Unit × Unit) × (Int × Unit) × (Int × Unit) × (Int × Unit) × (List Int) × (List Int) × (List Int) × Int × Int) → Option (Int × ((Unit × Unit × Unit × Unit) × (Int × Unit) × (Int × Unit) × (Int × Unit) × (Int × Unit) × List Int × List Int × List Int × List Int))) (y_ : ((Unit × Unit × Unit × Unit) × (Int × Unit) × (Int × Unit) × (Int × Unit) × (List Int) × (List Int) × (List Int) × Int × Int)) => s46_r1B (fun n152 n153 n154 xs119 xs120 xs121 n155 n156 => r_ (((), (), (), ()), (n152, ()), (n153, ()), (n154, ()), xs119, xs120, xs121, n155, n156)) s46_j2 v_.1 v_.2 t_.2.1.1 t_.2.2 y_.2.1.1 y_.2.2.1.1 y_.2.2.2.1.1 y_.2.2.2.2.1 y_.2.2.2.2.2.1 y_.2.2.2.2.2.2.1 y_.2.2.2.2.2.2.2.1 y_.2.2.2.2.2.2.2.2) tr_ (((), (), (), ()), (n152, ()), (n153, ()), (n154, ()), xs119, xs120, xs121, n155, n156)
def s46_j1F (r1 : (Tr (Int × Int) (Unit × (Int × Unit) × (List Int))) → Int → Int → Int → (List Int) → (List Int) → (List Int) → Int → Int → Option (Int × ((Unit × Unit × Unit × Unit) × (Int × Unit) × (Int × Unit) × (Int × Unit) × (Int × Unit) × List Int × List Int × List Int × List Int))) (n117 : Int) (n118 : Int) (n119 : Int) (n120 : Int) (xs99 : List Int) (xs100 : List Int) (xs101 : List Int) (xs102 : List Int) (n121 : Int) (n122 : Int) : Option (Int × ((Unit × Unit × Unit × Unit) × (Int × Unit) × (Int × Unit) × (Int × Unit) × (Int × Unit) × List Int × List Int × List Int × List Int)) :=
  (s76 n117 xs99).bind fun tr1 =>
  r1 tr1 n118 n119 n120 xs100 xs101 xs102 n121 n122
def s46_j1 (n117 : Int) (n118 : Int) (n119 : Int) (n120 : Int) (xs99 : List Int) (xs100 : List Int) (xs101 : List Int) (xs102 : List Int) (n121 : Int) (n122 : Int) : Option (Int × ((Unit × Unit × Unit × Unit) × (Int × Unit) × (Int × Unit) × (Int × Unit) × (Int × Unit) × List Int × List Int × List Int × List Int)) := s46_j1F s46_r1 n117 n118 n119 n120 xs99 xs100 xs101 xs102 n121 n122
def s46F (j1 : Int → Int → Int → Int → (List Int) → (List Int) → (List Int) → (List Int) → Int → Int → Option (Int × ((Unit × Unit × Unit × Unit) × (Int × Unit) × (Int × Unit) × (Int × Unit) × (Int × Unit) × List Int × List Int × List Int × List Int))) (n110 : Int) (n111 : Int) (n112 : Int) (n113 : Int) (n114 : Int) (xs93 : List Int) (xs94 : List Int) (xs95 : List Int) (xs96 : List Int) : Option (Int × ((Unit × Unit × Unit × Unit) × (Int × Unit) × (Int × Unit) × (Int × Unit) × (Int × Unit) × List Int × List Int × List Int × List Int)) :=
  (s69 n111 xs93).bind fun y27 =>
  (some y27.2.1.1).bind fun n116 =>
  (some y27.2.2.1).bind fun xs98 =>
  j1 n116 n112 n113 n114 xs98 xs94 xs95 xs96 n110 (-1)
def s46 (n110 : Int) (n111 : Int) (n112 : Int) (n113 : Int) (n114 : Int) (xs93 : List Int) (xs94 : List Int) (xs95 : List Int) (xs96 : List Int) : Option (Int × ((Unit × Unit × Unit × Unit) × (Int × Unit) × (Int × Unit) × (Int × Unit) × (Int × Unit) × List Int × List Int × List Int × List Int)) := s46F s46_j1 n110 n111 n112 n113 n114 xs93 xs94 xs95 xs96
/-! ### (*incipit/extent.Set).Drop -/
def s48F (n189 : Int) (n190 : Int) (xs143 : List Int) : Option (Int × ((Int × Unit) × List Int)) :=
  (s66 n189 n190 xs143).bind fun y34 =>
  (some y34.1).bind fun n191 =>
  (some y34.2.1.1).bind fun n192 =>
  (some y34.2.2).bind fun xs144 =>
  if n191 ≠ 0 then
  some (n191, ((n192, ()), xs144))
  else
  (s56 n189 n192 xs144).bind fun y35 =>
  (some y35.1).bind fun b16 =>
  (some y35.2.1.1).bind fun n193 =>
  (some y35.2.2).bind fun xs145 =>
  if ¬ b16 = true then
  some (4, ((n193, ()), xs145))
  else
  if (64 : Int) ≠ 0 then
  if 0 ≤ (IntKind.i64.wrap (Int.tdiv n189 64)) ∧ (IntKind.i64.wrap (Int.tdiv n189 64)) < (xs145.length : Int) then
  (getI xs145 (IntKind.i64.wrap (Int.tdiv n189 64))).bind fun x10 =>
  (s67 n189).bind fun n194 =>
  if 0 ≤ (IntKind.i64.wrap (Int.tdiv n189 64)) ∧ (IntKind.i64.wrap (Int.tdiv n189 64)) < (xs145.length : Int) then
  (setI xs145 (IntKind.i64.wrap (Int.tdiv n189 64)) (andNotI .u64 x10 n194)).bind fun xs146 =>
  some (0, ((n193, ()), xs146))
  else none
  else none
  else none
def s48 (n189 : Int) (n190 : Int) (xs143 : List Int) : Option (Int × ((Int × Unit) × List Int)) := s48F n189 n190 xs143
/-! ### (*incipit/freemap.Map).take -/
def s47_l1B (r_l1 : Int → Int → Int → Int → Int → Int → Int → (List Int) → (List Int) → (List Int) → (List Int) → Option (Unit × ((Unit × Unit × Unit × Unit) × (Int × Unit) × (Int × Unit) × (Int × Unit) × (Int × Unit) × List Int × List Int × List Int × List Int))) (n182 : Int) (n183 : Int) (n184 : Int) (n185 : Int) (n186 : Int) (n187 : Int) (n188 : Int) (xs139 : List Int) (xs140 : List Int) (xs141 : List Int) (xs142 : List Int) : Option (Unit × ((Unit × Unit × Unit × Unit) × (Int × Unit) × (Int × Unit) × (Int × Unit) × (Int × Unit) × List Int × List Int × List Int × List Int)) :=
  if n184 < n183 then
  (s48 (IntKind.i64.wrap (n182 + n184)) n185 xs139).bind fun y36 =>
  (some y36.1).bind fun n195 =>
  (some y36.2.1.1).bind fun n196 =>
  (some y36.2.2).bind fun xs147 =>
  (s41 (IntKind.i64.wrap (n182 + n184)) n187 xs141).bind fun y37 =>
  (some y37.1).bind fun n197 =>
  (some y37.2.1.1).bind fun n198 =>
  (some y37.2.2).bind fun xs148 =>
  r_l1 n182 n183 (IntKind.i64.wrap (n184 + 1)) n196 n186 n198 n188 xs147 xs140 xs148 xs142
  else
  some ((), (((), (), (), ()), (n185, ()), (n186, ()), (n187, ()), (n188, ()), xs139, xs140, xs141, xs142))
def s47_l1 (n_ : Nat) (n182 : Int) (n183 : Int) (n184 : Int) (n185 : Int) (n186 : Int) (n187 : Int) (n188 : Int) (xs139 : List Int) (xs140 : List Int) (xs141 : List Int) (xs142 : List Int) : Option (Unit × ((Unit × Unit × Unit × Unit) × (Int × Unit) × (Int × Unit) × (Int × Unit) × (Int × Unit) × List Int × List Int × List Int × List Int)) := iterL (fun (r_ : ((Unit × Int × Int × Int) × ((Unit × Unit × Unit × Unit) × (Int × Unit) × (Int × Unit) × (Int × Unit) × (Int × Unit) × (List Int) × (List Int) × (List Int) × (List Int))) → Option (Unit × ((Unit × Unit × Unit × Unit) × (Int × Unit) × (Int × Unit) × (Int × Unit) × (Int × Unit) × List Int × List Int × List Int × List Int))) (x : ((Unit × Int × Int × Int) × ((Unit × Unit × Unit × Unit) × (Int × Unit) × (Int × Unit) × (Int × Unit) × (Int × Unit) × (List Int) × (List Int) × (List Int) × (List Int)))) => s47_l1B (fun n182 n183 n184 n185 n186 n187 n188 xs139 xs140 xs141 xs142 => r_ (((), n182, n183, n184), (((), (), (), ()), (n185, ()), (n186, ()), (n187, ()), (n188, ()), xs139, xs140, xs141, xs142))) x.1.2.1 x.1.2.2.1 x.1.2.2.2 x.2.2.1.1 x.2.2.2.1.1 x.2.2.2.2.1.1 x.2.2.2.2.2.1.1 x.2.2.2.2.2.2.1 x.2.2.2.2.2.2.2.1 x.2.2.2.2.2.2.2.2.1 x.2.2.2.2.2.2.2.2.2) n_ (((), n182, n183, n184), (((), (), (), ()), (n185, ()), (n186, ()), (n187, ()), (n188, ()), xs139, xs140, xs141, xs142))
def s47F (l1 : Int → Int → Int → Int → Int → Int → Int → (List Int) → (List Int) → (List Int) → (List Int) → Option (Unit × ((Unit × Unit × Unit × Unit) × (Int × Unit) × (Int × Unit) × (Int × Unit) × (Int × Unit) × List Int × List Int × List Int × List Int))) (n176 : Int) (n177 : Int) (n178 : Int) (n179 : Int) (n180 : Int) (n181 : Int) (xs135 : List Int) (xs136 : List Int) (xs137 : List Int) (xs138 : List Int) : Option (Unit × ((Unit × Unit × Unit × Unit) × (Int × Unit) × (Int × Unit) × (Int × Unit) × (Int × Unit) × List Int × List Int × List Int × List Int)) :=
  l1 n176 n177 0 n178 n179 n180 n181 xs135 xs136 xs137 xs138
def s47 (n176 : Int) (n177 : Int) (n178 : Int) (n179 : Int) (n180 : Int) (n181 : Int) (xs135 : List Int) (xs136 : List Int) (xs137 : List Int) (xs138 : List Int) : Option (Unit × ((Unit × Unit × Unit × Unit) × (Int × Unit) × (Int × Unit) × (Int × Unit) × (Int × Unit) × List Int × List Int × List Int × List Int)) := s47F (s47_l1 FUEL) n176 n177 n178 n179 n180 n181 xs135 xs136 xs137 xs138
/-! ### (*incipit/freemap.Map).AllocRun -/
def s14_v2F (n97 : Int) (n98 : Int) (n99 : Int) (n100 : Int) (n101 : Int) (xs81 : List Int) (xs82 : List Int) (xs83 : List Int) (xs84 : List Int) : Option ((Int × Int) × ((Unit × Unit × Unit × Unit) × (Int × Unit) × (Int × Unit) × (Int × Unit) × (Int × Unit) × List Int × List Int × List Int × List Int)) :=
  (s45_v2 n98 n99 n100 n101 xs81 xs82 xs83 xs84).bind fun y26 =>
  (some y26.2.2.1.1).bind fun n106 =>
  (some y26.2.2.2.1.1).bind fun n107 =>
  (some y26.2.2.2.2.1.1).bind fun n108 =>
  (some y26.2.2.2.2.2.1.1).bind fun n109 =>
  (some y26.2.2.2.2.2.2.1).bind fun xs89 =>
  (some y26.2.2.2.2.2.2.2.1).bind fun xs90 =>
  (some y26.2.2.2.2.2.2.2.2.1).bind fun xs91 =>
  (some y26.2.2.2.2.2.2.2.2.2).bind fun xs92 =>
  if n97 < 1 then
  some ((0, 1), (((), (), (), ()), (n106, ()), (n107, ()), (n108, ()), (n109, ()), xs89, xs90, xs91, xs92))
  else
  (s46 n97 n106 n107 n108 n109 xs89 xs90 xs91 xs92).bind fun y33 =>
  (some y33.1).bind fun n171 =>
  (some y33.2.2.1.1).bind fun n172 =>
  (some y33.2.2.2.1.1).bind fun n173 =>
  (some y33.2.2.2.2.1.1).bind fun n174 =>
  (some y33.2.2.2.2.2.1.1).bind fun n175 =>
  (some y33.2.2.2.2.2.2.1).bind fun xs131 =>
  (some y33.2.2.2.2.2.2.2.1).bind fun xs132 =>
  (some y33.2.2.2.2.2.2.2.2.1).bind fun xs133 =>
  (some y33.2.2.2.2.2.2.2.2.2).bind fun xs134 =>
  if n171 < 0 then
  some ((0, 6), (((), (), (), ()), (n172, ()), (n173, ()), (n174, ()), (n175, ()), xs131, xs132, xs133, xs134))
  else
  (s47 n171 n97 n172 n173 n174 n175 xs131 xs132 xs133 xs134).bind fun y38 =>
  (some y38.2.2.1.1).bind fun n199 =>
  (some y38.2.2.2.1.1).bind fun n200 =>
  (some y38.2.2.2.2.1.1).bind fun n201 =>
  (some y38.2.2.2.2.2.1.1).bind fun n202 =>
  (some y38.2.2.2.2.2.2.1).bind fun xs149 =>
  (some y38.2.2.2.2.2.2.2.1).bind fun xs150 =>
  (some y38.2.2.2.2.2.2.2.2.1).bind fun xs151 =>
  (some y38.2.2.2.2.2.2.2.2.2).bind fun xs152 =>
  some ((n171, 0), (((), (), (), ()), (n199, ()), (n200, ()), (n201, ()), (n202, ()), xs149, xs150, xs151, xs152))
def s14_v2 (n97 : Int) (n98 : Int) (n99 : Int) (n100 : Int) (n101 : Int) (xs81 : List Int) (xs82 : List Int) (xs83 : List Int) (xs84 : List Int) : Option ((Int × Int) × ((Unit × Unit × Unit × Unit) × (Int × Unit) × (Int × Unit) × (Int × Unit) × (Int × Unit) × List Int × List Int × List Int × List Int)) := s14_v2F n97 n98 n99 n100 n101 xs81 xs82 xs83 xs84
/-! ### (*incipit/freemap.Map).Alloc -/
def s12_v2F (n93 : Int) (n94 : Int) (n95 : Int) (n96 : Int) (xs77 : List Int) (xs78 : List Int) (xs79 : List Int) (xs80 : List Int) : Option ((Int × Int) × ((Unit × Unit × Unit × Unit) × (Int × Unit) × (Int × Unit) × (Int × Unit) × (Int × Unit) × List Int × List Int × List Int × List Int)) :=
  (s14_v2 1 n93 n94 n95 n96 xs77 xs78 xs79 xs80).bind fun y39 =>
  (some y39.1.1).bind fun n203 =>
  (some y39.1.2).bind fun n204 =>
  (some y39.2.2.1.1).bind fun n205 =>
  (some y39.2.2.2.1.1).bind fun n206 =>
  (some y39.2.2.2.2.1.1).bind fun n207 =>
  (some y39.2.2.2.2.2.1.1).bind fun n208 =>
  (some y39.2.2.2.2.2.2.1).bind fun xs153 =>
  (some y39.2.2.2.2.2.2.2.1).bind fun xs154 =>
  (some y39.2.2.2.2.2.2.2.2.1).bind fun xs155 =>
  (some y39.2.2.2.2.2.2.2.2.2).bind fun xs156 =>
  some ((n203, n204), (((), (), (), ()), (n205, ()), (n206, ()), (n207, ()), (n208, ()), xs153, xs154, xs155, xs156))
def s12_v2 (n93 : Int) (n94 : Int) (n95 : Int) (n96 : Int) (xs77 : List Int) (xs78 : List Int) (xs79 : List Int) (xs80 : List Int) : Option ((Int × Int) × ((Unit × Unit × Unit × Unit) × (Int × Unit) × (Int × Unit) × (Int × Unit) × (Int × Unit) × List Int × List Int × List Int × List Int)) := s12_v2F n93 n94 n95 n96 xs77 xs78 xs79 xs80
/-! ### (*incipit/freemap.Map).Has -/
def s32F (n230 : Int) (n231 : Int) (n232 : Int) (n233 : Int) (n234 : Int) (xs173 : List Int) (xs174 : List Int) (xs175 : List Int) (xs176 : List Int) : Option (Bool × ((Unit × Unit × Unit × Unit) × (Int × Unit) × (Int × Unit) × (Int × Unit) × (Int × Unit) × List Int × List Int × List Int × List Int)) :=
  (s45_v2 n231 n232 n233 n234 xs173 xs174 xs175 xs176).bind fun y43 =>
  (some y43.2.2.1.1).bind fun n235 =>
  (some y43.2.2.2.1.1).bind fun n236 =>
  (some y43.2.2.2.2.1.1).bind fun n237 =>
  (some y43.2.2.2.2.2.1.1).bind fun n238 =>
  (some y43.2.2.2.2.2.2.1).bind fun xs177 =>
  (some y43.2.2.2.2.2.2.2.1).bind fun xs178 =>
  (some y43.2.2.2.2.2.2.2.2.1).bind fun xs179 =>
  (some y43.2.2.2.2.2.2.2.2.2).bind fun xs180 =>
  if n230 ≥ 0 then
  (s50 n235 xs177).bind fun y44 =>
  (some y44.1).bind fun n239 =>
  (some y44.2.1.1).bind fun n240 =>
  (some y44.2.2).bind fun xs181 =>
  if n230 < n239 then
  (s56 n230 n240 xs181).bind fun y45 =>
  (some y45.1).bind fun b17 =>
  (some y45.2.1.1).bind fun n241 =>
  (some y45.2.2).bind fun xs182 =>
  if ¬ b17 = true then
  (s56 n230 n236 xs178).bind fun y46 =>
  (some y46.1).bind fun b18 =>
  (some y46.2.1.1).bind fun n242 =>
  (some y46.2.2).bind fun xs183 =>
  some (decide (¬ b18 = true), (((), (), (), ()), (n241, ()), (n242, ()), (n237, ()), (n238, ()), xs182, xs183, xs179, xs180))
  else
  some (false, (((), (), (), ()), (n241, ()), (n236, ()), (n237, ()), (n238, ()), xs182, xs178, xs179, xs180))
  else
  some (false, (((), (), (), ()), (n240, ()), (n236, ()), (n237, ()), (n238, ()), xs181, xs178, xs179, xs180))
  else
  some (false, (((), (), (), ()), (n235, ()), (n236, ()), (n237, ()), (n238, ()), xs177, xs178, xs179, xs180))
def s32 (n230 : Int) (n231 : Int) (n232 : Int) (n233 : Int) (n234 : Int) (xs173 : List Int) (xs174 : List Int) (xs175 : List Int) (xs176 : List Int) : Option (Bool × ((Unit × Unit × Unit × Unit) × (Int × Unit) × (Int × Unit) × (Int × Unit) × (Int × Unit) × List Int × List Int × List Int × List Int)) := s32F n230 n231 n232 n233 n234 xs173 xs174 xs175 xs176
/-! ### (*incipit/freemap.Map).Free -/
def s15F (n221 : Int) (n222 : Int) (n223 : Int) (n224 : Int) (n225 : Int) (xs165 : List Int) (xs166 : List Int) (xs167 : List Int) (xs168 : List Int) : Option (Int × ((Unit × Unit × Unit × Unit) × (Int × Unit) × (Int × Unit) × (Int × Unit) × (Int × Unit) × List Int × List Int × List Int × List Int)) :=
  (s45_v2 n222 n223 n224 n225 xs165 xs166 xs167 xs168).bind fun y42 =>
  (some y42.2.2.1.1).bind fun n226 =>
  (some y42.2.2.2.1.1).bind fun n227 =>
  (some y42.2.2.2.2.1.1).bind fun n228 =>
  (some y42.2.2.2.2.2.1.1).bind fun n229 =>
  (some y42.2.2.2.2.2.2.1).bind fun xs169 =>
  (some y42.2.2.2.2.2.2.2.1).bind fun xs170 =>
  (some y42.2.2.2.2.2.2.2.2.1).bind fun xs171 =>
  (some y42.2.2.2.2.2.2.2.2.2).bind fun xs172 =>
  (s32 n221 n226 n227 n228 n229 xs169 xs170 xs171 xs172).bind fun y47 =>
  (some y47.1).bind fun b19 =>
  (some y47.2.2.1.1).bind fun n243 =>
  (some y47.2.2.2.1.1).bind fun n244 =>
  (some y47.2.2.2.2.1.1).bind fun n245 =>
  (some y47.2.2.2.2.2.1.1).bind fun n246 =>
  (some y47.2.2.2.2.2.2.1).bind fun xs184 =>
  (some y47.2.2.2.2.2.2.2.1).bind fun xs185 =>
  (some y47.2.2.2.2.2.2.2.2.1).bind fun xs186 =>
  (some y47.2.2.2.2.2.2.2.2.2).bind fun xs187 =>
  if ¬ b19 = true then
  some (4, (((), (), (), ()), (n243, ()), (n244, ()), (n245, ()), (n246, ()), xs184, xs185, xs186, xs187))
  else
  (s48 n221 n245 xs186).bind fun y48 =>
  (some y48.1).bind fun n247 =>
  (some y48.2.1.1).bind fun n248 =>
  (some y48.2.2).bind fun xs188 =>
  if n247 = 0 then
  (s41 n221 n243 xs184).bind fun y49 =>
  (some y49.1).bind fun n249 =>
  (some y49.2.1.1).bind fun n250 =>
  (some y49.2.2).bind fun xs189 =>
  some (n249, (((), (), (), ()), (n250, ()), (n244, ()), (n248, ()), (n246, ()), xs189, xs185, xs188, xs187))
  else
  (s41 n221 n244 xs185).bind fun y50 =>
  (some y50.1).bind fun n251 =>
  (some y50.2.1.1).bind fun n252 =>
  (some y50.2.2).bind fun xs190 =>
  some (n251, (((), (), (), ()), (n243, ()), (n252, ()), (n248, ()), (n246, ()), xs184, xs190, xs188, xs187))
def s15 (n221 : Int) (n222 : Int) (n223 : Int) (n224 : Int) (n225 : Int) (xs165 : List Int) (xs166 : List Int) (xs167 : List Int) (xs168 : List Int) : Option (Int × ((Unit × Unit × Unit × Unit) × (Int × Unit) × (Int × Unit) × (Int × Unit) × (Int × Unit) × List Int × List Int × List Int × List Int)) := s15F n221 n222 n223 n224 n225 xs165 xs166 xs167 xs168
/-! ### (*incipit/extent.Set).All -/
def s49F (n281 : Int) (xs215 : List Int) : Option ((Unit × Unit) × ((Int × Unit) × List Int × Unit)) :=
  some (((), ()), ((n281, ()), xs215, ()))
def s49 (n281 : Int) (xs215 : List Int) : Option ((Unit × Unit) × ((Int × Unit) × List Int × Unit)) := s49F n281 xs215
/-! ### (*incipit/extent.Set).All$1 -/
def s70_j1F (r_l1 : Int → Int → (List Int) → Option (Tr Int (Unit × (Int × Unit) × List Int))) (n292 : Int) (b21 : Bool) (n293 : Int) (xs224 : List Int) : Option (Tr Int (Unit × (Int × Unit) × List Int)) :=
  if b21 = true then
  some (.done ((), (n293, ()), xs224))
  else
  (s71 (IntKind.i64.wrap (n292 + 1)) n293 xs224).bind fun y57 =>
  (some y57.1).bind fun n294 =>
  (some y57.2.1.1).bind fun n295 =>
  (some y57.2.2).bind fun xs225 =>
  r_l1 n294 n295 xs225
def s70_j1 (r_l1 : Int → Int → (List Int) → Option (Tr Int (Unit × (Int × Unit) × List Int))) (n292 : Int) (b21 : Bool) (n293 : Int) (xs224 : List Int) : Option (Tr Int (Unit × (Int × Unit) × List Int)) := s70_j1F r_l1 n292 b21 n293 xs224
def s70_l1B (j1 : Int → Bool → Int → (List Int) → Option (Tr Int (Unit × (Int × Unit) × List Int))) (n290 : Int) (n291 : Int) (xs223 : List Int) : Option (Tr Int (Unit × (Int × Unit) × List Int)) :=
  if n290 ≥ 0 then
  consT n290 (
  j1 n290 true n291 xs223)
  (j1 n290 false n291 xs223)
  else
  some (.done ((), (n291, ()), xs223))
def s70_l1 (n_ : Nat) (n290 : Int) (n291 : Int) (xs223 : List Int) : Option (Tr Int (Unit × (Int × Unit) × List Int)) := iterL (fun (r_ : ((Unit × Unit × Int) × (Unit × (Int × Unit) × (List Int))) → Option (Tr Int (Unit × (Int × Unit) × List Int))) (x : ((Unit × Unit × Int) × (Unit × (Int × Unit) × (List Int)))) => s70_l1B (s70_j1 (fun n290 n291 xs223 => r_ (((), (), n290), ((), (n291, ()), xs223)))) x.1.2.2 x.2.2.1.1 x.2.2.2) n_ (((), (), n290), ((), (n291, ()), xs223))
def s70F (l1 : Int → Int → (List Int) → Option (Tr Int (Unit × (Int × Unit) × List Int))) (n287 : Int) (xs221 : List Int) : Option (Tr Int (Unit × (Int × Unit) × List Int)) :=
  (s71 0 n287 xs221).bind fun y56 =>
  (some y56.1).bind fun n288 =>
  (some y56.2.1.1).bind fun n289 =>
  (some y56.2.2).bind fun xs222 =>
  l1 n288 n289 xs222
def s70 (n287 : Int) (xs221 : List Int) : Option (Tr Int (Unit × (Int × Unit) × List Int)) := s70F (s70_l1 FUEL) n287 xs221
/-! ### (*incipit/freemap.Map).none -/
def s68_v2F (n313 : Int) (n314 : Int) (n315 : Int) (n316 : Int) (xs241 : List Int) (xs242 : List Int) (xs243 : List Int) (xs244 : List Int) : Option (Unit × ((Unit × Unit × Unit × Unit) × (Int × Unit) × (Int × Unit) × (Int × Unit) × (Int × Unit) × List Int × List Int × List Int × List Int × (Int × Unit) × List Int)) :=
  (s50 n313 xs241).bind fun y60 =>
  (some y60.1).bind fun n317 =>
  (some y60.2.1.1).bind fun n318 =>
  (some y60.2.2).bind fun xs245 =>
  (s40_v2 n317).bind fun y61 =>
  (some y61.2.1.1).bind fun n319 =>
  (some y61.2.2).bind fun xs246 =>
  some ((), (((), (), (), ()), (n318, ()), (n314, ()), (n315, ()), (n316, ()), xs245, xs242, xs243, xs244, (n319, ()), xs246))
def s68_v2 (n313 : Int) (n314 : Int) (n315 : Int) (n316 : Int) (xs241 : List Int) (xs242 : List Int) (xs243 : List Int) (xs244 : List Int) : Option (Unit × ((Unit × Unit × Unit × Unit) × (Int × Unit) × (Int × Unit) × (Int × Unit) × (Int × Unit) × List Int × List Int × List Int × List Int × (Int × Unit) × List Int)) := s68_v2F n313 n314 n315 n316 xs241 xs242 xs243 xs244
/-! ### (*incipit/freemap.Map).settle -/
def s43_v2F (n307 : Int) (n308 : Int) (n309 : Int) (n310 : Int) (xs235 : List Int) (xs236 : List Int) (xs237 : List Int) (xs238 : List Int) : Option (Unit × ((Unit × Unit × Unit × Unit) × (Int × Unit) × (Int × Unit) × (Int × Unit) × (Int × Unit) × List Int × List Int × List Int × List Int × (Int × Unit) × (Int × Unit) × (Int × Unit) × List Int × List Int × List Int)) :=
  (s65_v2 n307 xs235).bind fun y59 =>
  (some y59.2.1.1).bind fun n311 =>
  (some y59.2.2.1).bind fun xs239 =>
  (some y59.2.2.2.1.1).bind fun n312 =>
  (some y59.2.2.2.2).bind fun xs240 =>
  (s68_v2 n311 n308 n309 n312 xs239 xs236 xs237 xs240).bind fun y62 =>
  (some y62.2.2.1.1).bind fun n320 =>
  (some y62.2.2.2.1.1).bind fun n321 =>
  (some y62.2.2.2.2.1.1).bind fun n322 =>
  (some y62.2.2.2.2.2.1.1).bind fun n323 =>
  (some y62.2.2.2.2.2.2.1).bind fun xs247 =>
  (some y62.2.2.2.2.2.2.2.1).bind fun xs248 =>
  (some y62.2.2.2.2.2.2.2.2.1).bind fun xs249 =>
  (some y62.2.2.2.2.2.2.2.2.2.1).bind fun xs250 =>
  (some y62.2.2.2.2.2.2.2.2.2.2.1.1).bind fun n324 =>
  (some y62.2.2.2.2.2.2.2.2.2.2.2).bind fun xs251 =>
  (s68_v2 n320 n321 n322 n323 xs247 xs248 xs249 xs250).bind fun y63 =>
  (some y63.2.2.1.1).bind fun n325 =>
  (some y63.2.2.2.1.1).bind fun n326 =>
  (some y63.2.2.2.2.1.1).bind fun n327 =>
  (some y63.2.2.2.2.2.1.1).bind fun n328 =>
  (some y63.2.2.2.2.2.2.1).bind fun xs252 =>
  (some y63.2.2.2.2.2.2.2.1).bind fun xs253 =>
  (some y63.2.2.2.2.2.2.2.2.1).bind fun xs254 =>
  (some y63.2.2.2.2.2.2.2.2.2.1).bind fun xs255 =>
  (some y63.2.2.2.2.2.2.2.2.2.2.1.1).bind fun n329 =>
  (some y63.2.2.2.2.2.2.2.2.2.2.2).bind fun xs256 =>
  some ((), (((), (), (), ()), (n325, ()), (n326, ()), (n327, ()), (n310, ()), xs252, xs253, xs254, xs238, (n324, ()), (n329, ()), (n328, ()), xs251, xs256, xs255))
def s43_v2 (n307 : Int) (n308 : Int) (n309 : Int) (n310 : Int) (xs235 : List Int) (xs236 : List Int) (xs237 : List Int) (xs238 : List Int) : Option (Unit × ((Unit × Unit × Unit × Unit) × (Int × Unit) × (Int × Unit) × (Int × Unit) × (Int × Unit) × List Int × List Int × List Int × List Int × (Int × Unit) × (Int × Unit) × (Int × Unit) × List Int × List Int × List Int)) := s43_v2F n307 n308 n309 n310 xs235 xs236 xs237 xs238
/-! ### (*incipit/freemap.Map).Commit -/
def s16_r1B (r_r1 : Int → Int → Int → (List Int) → (List Int) → (List Int) → Option (Unit × ((Unit × Unit × Unit × Unit) × (Int × Unit) × (Int × Unit) × (Int × Unit) × (Int × Unit) × List Int × List Int × List Int × List Int × (Int × Unit) × (Int × Unit) × (Int × Unit) × List Int × List Int × List Int))) (n300 : Int) (n296 : Int) (n297 : Int) (n298 : Int) (xs226 : List Int) (xs227 : List Int) (xs228 : List Int) : Option (Unit × ((Unit × Unit × Unit × Unit) × (Int × Unit) × (Int × Unit) × (Int × Unit) × (Int × Unit) × List Int × List Int × List Int × List Int × (Int × Unit) × (Int × Unit) × (Int × Unit) × List Int × List Int × List Int)) :=
  (s41 n300 n296 xs226).bind fun y58 =>
  (some y58.1).bind fun n301 =>
  (some y58.2.1.1).bind fun n302 =>
  (some y58.2.2).bind fun xs230 =>
  r_r1 n302 n297 n298 xs230 xs227 xs228
def s16_r1D (n303 : Int) (xs231 : List Int) (n304 : Int) (n305 : Int) (n306 : Int) (xs232 : List Int) (xs233 : List Int) (xs234 : List Int) : Option (Unit × ((Unit × Unit × Unit × Unit) × (Int × Unit) × (Int × Unit) × (Int × Unit) × (Int × Unit) × List Int × List Int × List Int × List Int × (Int × Unit) × (Int × Unit) × (Int × Unit) × List Int × List Int × List Int)) :=
  (s43_v2 n304 n303 n305 n306 xs232 xs231 xs233 xs234).bind fun y64 =>
  (some y64.2.2.1.1).bind fun n330 =>
  (some y64.2.2.2.1.1).bind fun n331 =>
  (some y64.2.2.2.2.1.1).bind fun n332 =>
  (some y64.2.2.2.2.2.1.1).bind fun n333 =>
  (some y64.2.2.2.2.2.2.1).bind fun xs257 =>
  (some y64.2.2.2.2.2.2.2.1).bind fun xs258 =>
  (some y64.2.2.2.2.2.2.2.2.1).bind fun xs259 =>
  (some y64.2.2.2.2.2.2.2.2.2.1).bind fun xs260 =>
  (some y64.2.2.2.2.2.2.2.2.2.2.1.1).bind fun n334 =>
  (some y64.2.2.2.2.2.2.2.2.2.2.2.1.1).bind fun n335 =>
  (some y64.2.2.2.2.2.2.2.2.2.2.2.2.1.1).bind fun n336 =>
  (some y64.2.2.2.2.2.2.2.2.2.2.2.2.2.1).bind fun xs261 =>
  (some y64.2.2.2.2.2.2.2.2.2.2.2.2.2.2.1).bind fun xs262 =>
  (some y64.2.2.2.2.2.2.2.2.2.2.2.2.2.2.2).bind fun xs263 =>
  some ((), (((), (), (), ()), (n330, ()), (n331, ()), (n332, ()), (n333, ()), xs257, xs258, xs259, xs260, (n334, ()), (n335, ()), (n336, ()), xs261, xs262, xs263))
def s16_r1 (tr_ : (Tr Int (Unit × (Int × Unit) × (List Int)))) (n296 : Int) (n297 : Int) (n298 : Int) (xs226 : List Int) (xs227 : List Int) (xs228 : List Int) : Option (Unit × ((Unit × Unit × Unit × Unit) × (Int × Unit) × (Int × Unit) × (Int × Unit) × (Int × Unit) × List Int × List Int × List Int × List Int × (Int × Unit) × (Int × Unit) × (Int × Unit) × List Int × List Int × List Int)) := iterT (fun (d_ : (Unit × (Int × Unit) × (List Int))) (y_ : ((Unit × Unit × Unit × Unit) × (Int × Unit) × (Int × Unit) × (Int × Unit) × (List Int) × (List Int) × (List Int) × Unit)) => s16_r1D d_.2.1.1 d_.2.2 y_.2.1.1 y_.2.2.1.1 y_.2.2.2.1.1 y_.2.2.2.2.1 y_.2.2.2.2.2.1 y_.2.2.2.2.2.2.1) (fun (v_ : Int) (t_ : (Unit × (Int × Unit) × (List Int))) (r_ : ((Unit × Unit × Unit × Unit) × (Int × Unit) × (Int × Unit) × (Int × Unit) × (List Int) × (List Int) × (List Int) × Unit) → Option (Unit × ((Unit × Unit × Unit × Unit) × (Int × Unit) × (Int × Unit) × (Int × Unit) × (Int × Unit) × List Int × List Int × List Int × List Int × (Int × Unit) × (Int × Unit) × (Int × Unit) × List Int × List Int × List Int))) (y_ : ((Unit × Unit × Unit × Unit) × (Int × Unit) × (Int × Unit) × (Int × Unit) × (List Int) × (List Int) × (List Int) × Unit)) => s16_r1B (fun n296 n297 n298 xs226 xs227 xs228 => r_ (((), (), (), ()), (n296, ()), (n297, ()), (n298, ()), xs226, xs227, xs228, ())) v_ y_.2.1.1 y_.2.2.1.1 y_.2.2.2.1.1 y_.2.2.2.2.1 y_.2.2.2.2.2.1 y_.2.2.2.2.2.2.1) tr_ (((), (), (), ()), (n296, ()), (n297, ()), (n298, ()), xs226, xs227, xs228, ())
def s16_j1F (r1 : (Tr Int (Unit × (Int × Unit) × (List Int))) → Int → Int → Int → (List Int) → (List Int) → (List Int) → Option (Unit × ((Unit × Unit × Unit × Unit) × (Int × Unit) × (Int × Unit) × (Int × Unit) × (Int × Unit) × List Int × List Int × List Int × List Int × (Int × Unit) × (Int × Unit) × (Int × Unit) × List Int × List Int × List Int))) (n283 : Int) (n284 : Int) (n285 : Int) (n286 : Int) (xs217 : List Int) (xs218 : List Int) (xs219 : List Int) (xs220 : List Int) : Option (Unit × ((Unit × Unit × Unit × Unit) × (Int × Unit) × (Int × Unit) × (Int × Unit) × (Int × Unit) × List Int × List Int × List Int × List Int × (Int × Unit) × (Int × Unit) × (Int × Unit) × List Int × List Int × List Int)) :=
  (s70 n284 xs218).bind fun tr2 =>
  r1 tr2 n283 n285 n286 xs217 xs219 xs220
def s16_j1 (n283 : Int) (n284 : Int) (n285 : Int) (n286 : Int) (xs217 : List Int) (xs218 : List Int) (xs219 : List Int) (xs220 : List Int) : Option (Unit × ((Unit × Unit × Unit × Unit) × (Int × Unit) × (Int × Unit) × (Int × Unit) × (Int × Unit) × List Int × List Int × List Int × List Int × (Int × Unit) × (Int × Unit) × (Int × Unit) × List Int × List Int × List Int)) := s16_j1F s16_r1 n283 n284 n285 n286 xs217 xs218 xs219 xs220
def s16F (j1 : Int → Int → Int → Int → (List Int) → (List Int) → (List Int) → (List Int) → Option (Unit × ((Unit × Unit × Unit × Unit) × (Int × Unit) × (Int × Unit) × (Int × Unit) × (Int × Unit) × List Int × List Int × List Int × List Int × (Int × Unit) × (Int × Unit) × (Int × Unit) × List Int × List Int × List Int))) (n273 : Int) (n274 : Int) (n275 : Int) (n276 : Int) (xs207 : List Int) (xs208 : List Int) (xs209 : List Int) (xs210 : List Int) : Option (Unit × ((Unit × Unit × Unit × Unit) × (Int × Unit) × (Int × Unit) × (Int × Unit) × (Int × Unit) × List Int × List Int × List Int × List Int × (Int × Unit) × (Int × Unit) × (Int × Unit) × List Int × List Int × List Int)) :=
  (s45_v2 n273 n274 n275 n276 xs207 xs208 xs209 xs210).bind fun y54 =>
  (some y54.2.2.1.1).bind fun n277 =>
  (some y54.2.2.2.1.1).bind fun n278 =>
  (some y54.2.2.2.2.1.1).bind fun n279 =>
  (some y54.2.2.2.2.2.1.1).bind fun n280 =>
  (some y54.2.2.2.2.2.2.1).bind fun xs211 =>
  (some y54.2.2.2.2.2.2.2.1).bind fun xs212 =>
  (some y54.2.2.2.2.2.2.2.2.1).bind fun xs213 =>
  (some y54.2.2.2.2.2.2.2.2.2).bind fun xs214 =>
  (s49 n278 xs212).bind fun y55 =>
  (some y55.2.1.1).bind fun n282 =>
  (some y55.2.2.1).bind fun xs216 =>
  j1 n277 n282 n279 n280 xs211 xs216 xs213 xs214
def s16 (n273 : Int) (n274 : Int) (n275 : Int) (n276 : Int) (xs207 : List Int) (xs208 : List Int) (xs209 : List Int) (xs210 : List Int) : Option (Unit × ((Unit × Unit × Unit × Unit) × (Int × Unit) × (Int × Unit) × (Int × Unit) × (Int × Unit) × List Int × List Int × List Int × List Int × (Int × Unit) × (Int × Unit) × (Int × Unit) × List Int × List Int × List Int)) := s16F s16_j1 n273 n274 n275 n276 xs207 xs208 xs209 xs210
/-! ### (*incipit/freemap.Map).Taken -/
def s17_j1F (r_l1 : Int → Int → Int → Int → Int → Int → (List Int) → (List Int) → (List Int) → (List Int) → (List Int) → Option (Unit × ((Unit × Unit × Unit × Unit) × (Int × Unit) × (Int × Unit) × (Int × Unit) × (Int × Unit) × List Int × List Int × List Int × List Int × List Int))) (n380 : Int) (n381 : Int) (n382 : Int) (n383 : Int) (n384 : Int) (n385 : Int) (xs304 : List Int) (xs305 : List Int) (xs306 : List Int) (xs307 : List Int) (xs308 : List Int) : Option (Unit × ((Unit × Unit × Unit × Unit) × (Int × Unit) × (Int × Unit) × (Int × Unit) × (Int × Unit) × List Int × List Int × List Int × List Int × List Int)) :=
  r_l1 n380 (IntKind.i64.wrap (n381 + 1)) n382 n383 n384 n385 xs304 xs305 xs306 xs307 xs308
def s17_j1 (r_l1 : Int → Int → Int → Int → Int → Int → (List Int) → (List Int) → (List Int) → (List Int) → (List Int) → Option (Unit × ((Unit × Unit × Unit × Unit) × (Int × Unit) × (Int × Unit) × (Int × Unit) × (Int × Unit) × List Int × List Int × List Int × List Int × List Int))) (n380 : Int) (n381 : Int) (n382 : Int) (n383 : Int) (n384 : Int) (n385 : Int) (xs304 : List Int) (xs305 : List Int) (xs306 : List Int) (xs307 : List Int) (xs308 : List Int) : Option (Unit × ((Unit × Unit × Unit × Unit) × (Int × Unit) × (Int × Unit) × (Int × Unit) × (Int × Unit) × List Int × List Int × List Int × List Int × List Int)) := s17_j1F r_l1 n380 n381 n382 n383 n384 n385 xs304 xs305 xs306 xs307 xs308
def s17_l1B (j1 : Int → Int → Int → Int → Int → Int → (List Int) → (List Int) → (List Int) → (List Int) → (List Int) → Option (Unit × ((Unit × Unit × Unit × Unit) × (Int × Unit) × (Int × Unit) × (Int × Unit) × (Int × Unit) × List Int × List Int × List Int × List Int × List Int))) (n370 : Int) (n371 : Int) (n372 : Int) (n373 : Int) (n374 : Int) (n375 : Int) (xs294 : List Int) (xs295 : List Int) (xs296 : List Int) (xs297 : List Int) (xs298 : List Int) : Option (Unit × ((Unit × Unit × Unit × Unit) × (Int × Unit) × (Int × Unit) × (Int × Unit) × (Int × Unit) × List Int × List Int × List Int × List Int × List Int)) :=
  if n371 < n370 then
  (s32 n371 n372 n373 n374 n375 xs294 xs295 xs296 xs297).bind fun y69 =>
  (some y69.1).bind fun b23 =>
  (some y69.2.2.1.1).bind fun n376 =>
  (some y69.2.2.2.1.1).bind fun n377 =>
  (some y69.2.2.2.2.1.1).bind fun n378 =>
  (some y69.2.2.2.2.2.1.1).bind fun n379 =>
  (some y69.2.2.2.2.2.2.1).bind fun xs299 =>
  (some y69.2.2.2.2.2.2.2.1).bind fun xs300 =>
  (some y69.2.2.2.2.2.2.2.2.1).bind fun xs301 =>
  (some y69.2.2.2.2.2.2.2.2.2).bind fun xs302 =>
  if b23 = true then
  (appI xs298 ([n371] : List Int) 8).bind fun xs303 =>
  j1 n370 n371 n376 n377 n378 n379 xs299 xs300 xs301 xs302 xs303
  else
  j1 n370 n371 n376 n377 n378 n379 xs299 xs300 xs301 xs302 xs298
  else
  some ((), (((), (), (), ()), (n372, ()), (n373, ()), (n374, ()), (n375, ()), xs294, xs295, xs296, xs297, xs298))
def s17_l1 (n_ : Nat) (n370 : Int) (n371 : Int) (n372 : Int) (n373 : Int) (n374 : Int) (n375 : Int) (xs294 : List Int) (xs295 : List Int) (xs296 : List Int) (xs297 : List Int) (xs298 : List Int) : Option (Unit × ((Unit × Unit × Unit × Unit) × (Int × Unit) × (Int × Unit) × (Int × Unit) × (Int × Unit) × List Int × List Int × List Int × List Int × List Int)) := iterL (fun (r_ : ((Unit × Unit × Int × Int) × ((Unit × Unit × Unit × Unit) × (Int × Unit) × (Int × Unit) × (Int × Unit) × (Int × Unit) × (List Int) × (List Int) × (List Int) × (List Int) × (List Int))) → Option (Unit × ((Unit × Unit × Unit × Unit) × (Int × Unit) × (Int × Unit) × (Int × Unit) × (Int × Unit) × List Int × List Int × List Int × List Int × List Int))) (x : ((Unit × Unit × Int × Int) × ((Unit × Unit × Unit × Unit) × (Int × Unit) × (Int × Unit) × (Int × Unit) × (Int × Unit) × (List Int) × (List Int) × (List Int) × (List Int) × (List Int)))) => s17_l1B (s17_j1 (fun n370 n371 n372 n373 n374 n375 xs294 xs295 xs296 xs297 xs298 => r_ (((), (), n370, n371), (((), (), (), ()), (n372, ()), (n373, ()), (n374, ()), (n375, ()), xs294, xs295, xs296, xs297, xs298)))) x.1.2.2.1 x.1.2.2.2 x.2.2.1.1 x.2.2.2.1.1 x.2.2.2.2.1.1 x.2.2.2.2.2.1.1 x.2.2.2.2.2.2.1 x.2.2.2.2.2.2.2.1 x.2.2.2.2.2.2.2.2.1 x.2.2.2.2.2.2.2.2.2.1 x.2.2.2.2.2.2.2.2.2.2) n_ (((), (), n370, n371), (((), (), (), ()), (n372, ()), (n373, ()), (n374, ()), (n375, ()), xs294, xs295, xs296, xs297, xs298))
def s17F (l1 : Int → Int → Int → Int → Int → Int → (List Int) → (List Int) → (List Int) → (List Int) → (List Int) → Option (Unit × ((Unit × Unit × Unit × Unit) × (Int × Unit) × (Int × Unit) × (Int × Unit) × (Int × Unit) × List Int × List Int × List Int × List Int × List Int))) (n344 : Int) (n345 : Int) (n346 : Int) (n347 : Int) (xs271 : List Int) (xs272 : List Int) (xs273 : List Int) (xs274 : List Int) : Option (Unit × ((Unit × Unit × Unit × Unit) × (Int × Unit) × (Int × Unit) × (Int × Unit) × (Int × Unit) × List Int × List Int × List Int × List Int × List Int)) :=
  (s45_v2 n344 n345 n346 n347 xs271 xs272 xs273 xs274).bind fun y66 =>
  (some y66.2.2.1.1).bind fun n348 =>
  (some y66.2.2.2.1.1).bind fun n349 =>
  (some y66.2.2.2.2.1.1).bind fun n350 =>
  (some y66.2.2.2.2.2.1.1).bind fun n351 =>
  (some y66.2.2.2.2.2.2.1).bind fun xs275 =>
  (some y66.2.2.2.2.2.2.2.1).bind fun xs276 =>
  (some y66.2.2.2.2.2.2.2.2.1).bind fun xs277 =>
  (some y66.2.2.2.2.2.2.2.2.2).bind fun xs278 =>
  (s50 n348 xs275).bind fun y67 =>
  (some y67.1).bind fun n352 =>
  (some y67.2.1.1).bind fun n353 =>
  (some y67.2.2).bind fun xs279 =>
  l1 n352 0 n353 n349 n350 n351 xs279 xs276 xs277 xs278 []
def s17 (n344 : Int) (n345 : Int) (n346 : Int) (n347 : Int) (xs271 : List Int) (xs272 : List Int) (xs273 : List Int) (xs274 : List Int) : Option (Unit × ((Unit × Unit × Unit × Unit) × (Int × Unit) × (Int × Unit) × (Int × Unit) × (Int × Unit) × List Int × List Int × List Int × List Int × List Int)) := s17F (s17_l1 FUEL) n344 n345 n346 n347 xs271 xs272 xs273 xs274
/-! ### slices.Equal[[]int,int] -/
def s19_l1B (r_l1 : (List Int) → (List Int) → Int → Int → Option Bool) (xs316 : List Int) (xs317 : List Int) (n390 : Int) (n391 : Int) : Option Bool :=
  if n391 < n390 then
  (getI xs316 n391).bind fun x11 =>
  (getI xs317 n391).bind fun x12 =>
  if x11 ≠ x12 then
  some false
  else
  r_l1 xs316 xs317 n390 (IntKind.i64.wrap (n391 + 1))
  else
  some true
def s19_l1 (n_ : Nat) (xs316 : List Int) (xs317 : List Int) (n390 : Int) (n391 : Int) : Option Bool := iterL (fun (r_ : ((List Int) × (List Int) × Int × Int) → Option Bool) (x : ((List Int) × (List Int) × Int × Int)) => s19_l1B (fun xs316 xs317 n390 n391 => r_ (xs316, xs317, n390, n391)) x.1 x.2.1 x.2.2.1 x.2.2.2) n_ (xs316, xs317, n390, n391)
def s19F (l1 : (List Int) → (List Int) → Int → Int → Option Bool) (xs314 : List Int) (xs315 : List Int) : Option Bool :=
  if (xs314.length : Int) ≠ (xs315.length : Int) then
  some false
  else
  l1 xs314 xs315 (xs314.length : Int) 0
def s19 (xs314 : List Int) (xs315 : List Int) : Option Bool := s19F (s19_l1 FUEL) xs314 xs315
/-! ### incipit/incipitlaw08.live -/
def s9_j2F (b11 : Bool) : Option Bool :=
  if b11 = true then
  some false
  else
  (s12).bind fun y24 =>
  (s14 2).bind fun y25 =>
  some false
def s9_j2 (b11 : Bool) : Option Bool := s9_j2F b11
def s9_j1F (j2 : Bool → Option Bool) (n82 : Int) : Option Bool :=
  if n82 ≠ 0 then
  j2 true
  else
  j2 true
def s9_j1 (n82 : Int) : Option Bool := s9_j1F s9_j2 n82
def s9_j5F (b20 : Bool) (n263 : Int) (n264 : Int) (n265 : Int) (n266 : Int) (xs199 : List Int) (xs200 : List Int) (xs201 : List Int) (xs202 : List Int) : Option Bool :=
  if b20 = true then
  some false
  else
  (s12_v2 n263 n264 n265 n266 xs199 xs200 xs201 xs202).bind fun y53 =>
  (some y53.1.1).bind fun n267 =>
  (some y53.1.2).bind fun n268 =>
  (some y53.2.2.1.1).bind fun n269 =>
  (some y53.2.2.2.1.1).bind fun n270 =>
  (some y53.2.2.2.2.1.1).bind fun n271 =>
  (some y53.2.2.2.2.2.1.1).bind fun n272 =>
  (some y53.2.2.2.2.2.2.1).bind fun xs203 =>
  (some y53.2.2.2.2.2.2.2.1).bind fun xs204 =>
  (some y53.2.2.2.2.2.2.2.2.1).bind fun xs205 =>
  (some y53.2.2.2.2.2.2.2.2.2).bind fun xs206 =>
  if n267 = 2 then
  if n268 = 0 then
  (s16 n269 n270 n271 n272 xs203 xs204 xs205 xs206).bind fun y65 =>
  (some y65.2.2.1.1).bind fun n337 =>
  (some y65.2.2.2.1.1).bind fun n338 =>
  (some y65.2.2.2.2.1.1).bind fun n339 =>
  (some y65.2.2.2.2.2.1.1).bind fun n340 =>
  (some y65.2.2.2.2.2.2.1).bind fun xs264 =>
  (some y65.2.2.2.2.2.2.2.1).bind fun xs265 =>
  (some y65.2.2.2.2.2.2.2.2.1).bind fun xs266 =>
  (some y65.2.2.2.2.2.2.2.2.2.1).bind fun xs267 =>
  (some y65.2.2.2.2.2.2.2.2.2.2.1.1).bind fun n341 =>
  (some y65.2.2.2.2.2.2.2.2.2.2.2.1.1).bind fun n342 =>
  (some y65.2.2.2.2.2.2.2.2.2.2.2.2.1.1).bind fun n343 =>
  (some y65.2.2.2.2.2.2.2.2.2.2.2.2.2.1).bind fun xs268 =>
  (some y65.2.2.2.2.2.2.2.2.2.2.2.2.2.2.1).bind fun xs269 =>
  (some y65.2.2.2.2.2.2.2.2.2.2.2.2.2.2.2).bind fun xs270 =>
  (s17 n337 n341 n342 n343 xs264 xs268 xs269 xs270).bind fun y70 =>
  (some y70.2.2.1.1).bind fun n386 =>
  (some y70.2.2.2.1.1).bind fun n387 =>
  (some y70.2.2.2.2.1.1).bind fun n388 =>
  (some y70.2.2.2.2.2.1.1).bind fun n389 =>
  (some y70.2.2.2.2.2.2.1).bind fun xs309 =>
  (some y70.2.2.2.2.2.2.2.1).bind fun xs310 =>
  (some y70.2.2.2.2.2.2.2.2.1).bind fun xs311 =>
  (some y70.2.2.2.2.2.2.2.2.2.1).bind fun xs312 =>
  (some y70.2.2.2.2.2.2.2.2.2.2).bind fun xs313 =>
  (s19 xs313 ([0, 1, 2, 5, 6] : List Int)).bind fun b24 =>
  some b24
  else
  some false
  else
  some false
def s9_j5 (b20 : Bool) (n263 : Int) (n264 : Int) (n265 : Int) (n266 : Int) (xs199 : List Int) (xs200 : List Int) (xs201 : List Int) (xs202 : List Int) : Option Bool := s9_j5F b20 n263 n264 n265 n266 xs199 xs200 xs201 xs202
def s9_j4F (j5 : Bool → Int → Int → Int → Int → (List Int) → (List Int) → (List Int) → (List Int) → Option Bool) (b12 : Bool) (n89 : Int) (n90 : Int) (n91 : Int) (n92 : Int) (xs73 : List Int) (xs74 : List Int) (xs75 : List Int) (xs76 : List Int) : Option Bool :=
  if b12 = true then
  some false
  else
  (s12_v2 n89 n90 n91 n92 xs73 xs74 xs75 xs76).bind fun y40 =>
  (some y40.1.1).bind fun n209 =>
  (some y40.1.2).bind fun n210 =>
  (some y40.2.2.1.1).bind fun n211 =>
  (some y40.2.2.2.1.1).bind fun n212 =>
  (some y40.2.2.2.2.1.1).bind fun n213 =>
  (some y40.2.2.2.2.2.1.1).bind fun n214 =>
  (some y40.2.2.2.2.2.2.1).bind fun xs157 =>
  (some y40.2.2.2.2.2.2.2.1).bind fun xs158 =>
  (some y40.2.2.2.2.2.2.2.2.1).bind fun xs159 =>
  (some y40.2.2.2.2.2.2.2.2.2).bind fun xs160 =>
  (s14_v2 2 n211 n212 n213 n214 xs157 xs158 xs159 xs160).bind fun y41 =>
  (some y41.1.1).bind fun n215 =>
  (some y41.1.2).bind fun n216 =>
  (some y41.2.2.1.1).bind fun n217 =>
  (some y41.2.2.2.1.1).bind fun n218 =>
  (some y41.2.2.2.2.1.1).bind fun n219 =>
  (some y41.2.2.2.2.2.1.1).bind fun n220 =>
  (some y41.2.2.2.2.2.2.1).bind fun xs161 =>
  (some y41.2.2.2.2.2.2.2.1).bind fun xs162 =>
  (some y41.2.2.2.2.2.2.2.2.1).bind fun xs163 =>
  (some y41.2.2.2.2.2.2.2.2.2).bind fun xs164 =>
  if n209 ≠ 2 then
  j5 true n217 n218 n219 n220 xs161 xs162 xs163 xs164
  else
  if n215 ≠ 5 then
  j5 true n217 n218 n219 n220 xs161 xs162 xs163 xs164
  else
  if n210 ≠ 0 then
  j5 true n217 n218 n219 n220 xs161 xs162 xs163 xs164
  else
  if n216 ≠ 0 then
  j5 true n217 n218 n219 n220 xs161 xs162 xs163 xs164
  else
  (s15 4 n217 n218 n219 n220 xs161 xs162 xs163 xs164).bind fun y51 =>
  (some y51.1).bind fun n253 =>
  (some y51.2.2.1.1).bind fun n254 =>
  (some y51.2.2.2.1.1).bind fun n255 =>
  (some y51.2.2.2.2.1.1).bind fun n256 =>
  (some y51.2.2.2.2.2.1.1).bind fun n257 =>
  (some y51.2.2.2.2.2.2.1).bind fun xs191 =>
  (some y51.2.2.2.2.2.2.2.1).bind fun xs192 =>
  (some y51.2.2.2.2.2.2.2.2.1).bind fun xs193 =>
  (some y51.2.2.2.2.2.2.2.2.2).bind fun xs194 =>
  if n253 ≠ 0 then
  j5 true n254 n255 n256 n257 xs191 xs192 xs193 xs194
  else
  (s15 2 n254 n255 n256 n257 xs191 xs192 xs193 xs194).bind fun y52 =>
  (some y52.1).bind fun n258 =>
  (some y52.2.2.1.1).bind fun n259 =>
  (some y52.2.2.2.1.1).bind fun n260 =>
  (some y52.2.2.2.2.1.1).bind fun n261 =>
  (some y52.2.2.2.2.2.1.1).bind fun n262 =>
  (some y52.2.2.2.2.2.2.1).bind fun xs195 =>
  (some y52.2.2.2.2.2.2.2.1).bind fun xs196 =>
  (some y52.2.2.2.2.2.2.2.2.1).bind fun xs197 =>
  (some y52.2.2.2.2.2.2.2.2.2).bind fun xs198 =>
  j5 (decide (n258 ≠ 0)) n259 n260 n261 n262 xs195 xs196 xs197 xs198
def s9_j4 (b12 : Bool) (n89 : Int) (n90 : Int) (n91 : Int) (n92 : Int) (xs73 : List Int) (xs74 : List Int) (xs75 : List Int) (xs76 : List Int) : Option Bool := s9_j4F s9_j5 b12 n89 n90 n91 n92 xs73 xs74 xs75 xs76
def s9_j3F (j4 : Bool → Int → Int → Int → Int → (List Int) → (List Int) → (List Int) → (List Int) → Option Bool) (n83 : Int) (n84 : Int) (n85 : Int) (n86 : Int) (n87 : Int) (xs69 : List Int) (xs70 : List Int) (xs71 : List Int) (xs72 : List Int) : Option Bool :=
  if n83 ≠ 0 then
  j4 true n84 n85 n86 n87 xs69 xs70 xs71 xs72
  else
  j4 false n84 n85 n86 n87 xs69 xs70 xs71 xs72
def s9_j3 (n83 : Int) (n84 : Int) (n85 : Int) (n86 : Int) (n87 : Int) (xs69 : List Int) (xs70 : List Int) (xs71 : List Int) (xs72 : List Int) : Option Bool := s9_j3F s9_j4 n83 n84 n85 n86 n87 xs69 xs70 xs71 xs72
def s9F (j1 : Int → Option Bool) (j3 : Int → Int → Int → Int → Int → (List Int) → (List Int) → (List Int) → (List Int) → Option Bool) : Option Bool :=
  (s10 8 ([0, 1, 4] : List Int)).bind fun y19 =>
  match y19 with
  | .inl y20 =>
  j1 1
  | .inr y21 =>
  (some y21.2.2.1.1).bind fun n78 =>
  (some y21.2.2.2.1.1).bind fun n79 =>
  (some y21.2.2.2.2.1.1).bind fun n80 =>
  (some y21.2.2.2.2.2.1.1).bind fun n81 =>
  (some y21.2.2.2.2.2.2.1).bind fun xs65 =>
  (some y21.2.2.2.2.2.2.2.1).bind fun xs66 =>
  (some y21.2.2.2.2.2.2.2.2.1).bind fun xs67 =>
  (some y21.2.2.2.2.2.2.2.2.2).bind fun xs68 =>
  j3 0 n78 n79 n80 n81 xs65 xs66 xs67 xs68
def s9 : Option Bool := s9F s9_j1 s9_j3
/-! ### incipit/freemap.Need -/
def s20F (n400 : Int) : Option Int :=
  (s38 n400).bind fun b30 =>
  if ¬ b30 = true then
  some 0
  else
  if (1024 : Int) ≠ 0 then
  some (IntKind.i64.wrap (1 + (IntKind.i64.wrap (Int.tdiv (IntKind.i64.wrap (n400 - 1)) 1024))))
  else none
def s20 (n400 : Int) : Option Int := s20F n400
/-! ### incipit/freemap.Put -/
def s21_j2F (r_l1 : Int → (List Int) → Int → Int → (List Int) → Option ((Unit × Int) × List Int)) (n406 : Int) (xs329 : List Int) (n407 : Int) (n408 : Int) (xs330 : List Int) : Option ((Unit × Int) × List Int) :=
  r_l1 n406 xs329 n407 (IntKind.i64.wrap (n408 + 1)) xs330
def s21_j2 (r_l1 : Int → (List Int) → Int → Int → (List Int) → Option ((Unit × Int) × List Int)) (n406 : Int) (xs329 : List Int) (n407 : Int) (n408 : Int) (xs330 : List Int) : Option ((Unit × Int) × List Int) := s21_j2F r_l1 n406 xs329 n407 n408 xs330
def s21_l1B (j2 : Int → (List Int) → Int → Int → (List Int) → Option ((Unit × Int) × List Int)) (n403 : Int) (xs326 : List Int) (n404 : Int) (n405 : Int) (xs327 : List Int) : Option ((Unit × Int) × List Int) :=
  if n405 < n404 then
  (getI xs326 n405).bind fun x14 =>
  if (1024 : Int) ≠ 0 then
  if (IntKind.i64.wrap (Int.tdiv x14 1024)) = n403 then
  if (1024 : Int) ≠ 0 then
  if (8 : Int) ≠ 0 then
  if 0 ≤ (IntKind.i64.wrap (Int.tdiv (Int.tmod x14 1024) 8)) ∧ (IntKind.i64.wrap (Int.tdiv (Int.tmod x14 1024) 8)) < (xs327.length : Int) then
  (getI xs327 (IntKind.i64.wrap (Int.tdiv (Int.tmod x14 1024) 8))).bind fun x15 =>
  if (8 : Int) ≠ 0 then
  if (0 : Int) ≤ (Int.tmod (Int.tmod x14 1024) 8) then
  if 0 ≤ (IntKind.i64.wrap (Int.tdiv (Int.tmod x14 1024) 8)) ∧ (IntKind.i64.wrap (Int.tdiv (Int.tmod x14 1024) 8)) < (xs327.length : Int) then
  (setI xs327 (IntKind.i64.wrap (Int.tdiv (Int.tmod x14 1024) 8)) (orI .u8 x15 (shlI .u8 1 (Int.tmod (Int.tmod x14 1024) 8)))).bind fun xs328 =>
  j2 n403 xs326 n404 n405 xs328
  else none
  else none
  else none
  else none
  else none
  else none
  else
  j2 n403 xs326 n404 n405 xs327
  else none
  else
  some (((), 0), xs327)
def s21_l1 (n_ : Nat) (n403 : Int) (xs326 : List Int) (n404 : Int) (n405 : Int) (xs327 : List Int) : Option ((Unit × Int) × List Int) := iterL (fun (r_ : ((Int × Unit × (List Int) × Int × Int) × (List Int)) → Option ((Unit × Int) × List Int)) (x : ((Int × Unit × (List Int) × Int × Int) × (List Int))) => s21_l1B (s21_j2 (fun n403 xs326 n404 n405 xs327 => r_ ((n403, (), xs326, n404, n405), xs327))) x.1.1 x.1.2.2.1 x.1.2.2.2.1 x.1.2.2.2.2 x.2) n_ ((n403, (), xs326, n404, n405), xs327)
def s21_j1F (l1 : Int → (List Int) → Int → Int → (List Int) → Option ((Unit × Int) × List Int)) (xs324 : List Int) (n402 : Int) (b31 : Bool) : Option ((Unit × Int) × List Int) :=
  if b31 = true then
  some (((), 1), [])
  else
  (repI 240 (0 : Int) 1).bind fun xs325 =>
  l1 n402 xs324 (xs324.length : Int) 0 xs325
def s21_j1 (xs324 : List Int) (n402 : Int) (b31 : Bool) : Option ((Unit × Int) × List Int) := s21_j1F (s21_l1 FUEL) xs324 n402 b31
def s21F (j1 : (List Int) → Int → Bool → Option ((Unit × Int) × List Int)) (n398 : Int) (xs323 : List Int) (n399 : Int) : Option ((Unit × Int) × List Int) :=
  (s38 n398).bind fun b28 =>
  if ¬ b28 = true then
  j1 xs323 n399 true
  else
  (s39 n398 xs323).bind fun b29 =>
  if ¬ b29 = true then
  j1 xs323 n399 true
  else
  if n399 < 0 then
  j1 xs323 n399 true
  else
  (s20 n398).bind fun n401 =>
  j1 xs323 n399 (decide (n399 ≥ n401))
def s21 (n398 : Int) (xs323 : List Int) (n399 : Int) : Option ((Unit × Int) × List Int) := s21F s21_j1 n398 xs323 n399
/-! ### incipit/incipitref08.may -/
def s53F (n412 : Int) : Option Bool :=
  if n412 ≥ 8 then
  some (decide (n412 ≤ 2048))
  else
  some false
def s53 (n412 : Int) : Option Bool := s53F n412
/-! ### incipit/incipitref08.List -/
def s22_j1F (r_l1 : Int → (List Int) → Int → Option Bool) (n416 : Int) (xs335 : List Int) (n417 : Int) (b33 : Bool) : Option Bool :=
  if b33 = true then
  some false
  else
  r_l1 n416 xs335 (IntKind.i64.wrap (n417 + 1))
def s22_j1 (r_l1 : Int → (List Int) → Int → Option Bool) (n416 : Int) (xs335 : List Int) (n417 : Int) (b33 : Bool) : Option Bool := s22_j1F r_l1 n416 xs335 n417 b33
def s22_l1B (j1 : Int → (List Int) → Int → Bool → Option Bool) (n414 : Int) (xs334 : List Int) (n415 : Int) : Option Bool :=
  if n415 < (xs334.length : Int) then
  (getI xs334 n415).bind fun x16 =>
  if x16 < 0 then
  j1 n414 xs334 n415 true
  else
  (getI xs334 n415).bind fun x17 =>
  if x17 ≥ n414 then
  j1 n414 xs334 n415 true
  else
  if n415 > 0 then
  (getI xs334 (IntKind.i64.wrap (n415 - 1))).bind fun x18 =>
  (getI xs334 n415).bind fun x19 =>
  j1 n414 xs334 n415 (decide (x18 ≥ x19))
  else
  j1 n414 xs334 n415 false
  else
  some true
def s22_l1 (n_ : Nat) (n414 : Int) (xs334 : List Int) (n415 : Int) : Option Bool := iterL (fun (r_ : (Int × (List Int) × Int) → Option Bool) (x : (Int × (List Int) × Int)) => s22_l1B (s22_j1 (fun n414 xs334 n415 => r_ (n414, xs334, n415))) x.1 x.2.1 x.2.2) n_ (n414, xs334, n415)
def s22F (l1 : Int → (List Int) → Int → Option Bool) (n413 : Int) (xs333 : List Int) : Option Bool :=
  l1 n413 xs333 0
def s22 (n413 : Int) (xs333 : List Int) : Option Bool := s22F (s22_l1 FUEL) n413 xs333
/-! ### incipit/incipitref08.Need -/
def s26F (n418 : Int) : Option Int :=
  (s53 n418).bind fun b35 =>
  if ¬ b35 = true then
  some 0
  else
  if (1024 : Int) ≠ 0 then
  some (IntKind.i64.wrap (1 + (IntKind.i64.wrap (Int.tdiv (IntKind.i64.wrap (n418 - 1)) 1024))))
  else none
def s26 (n418 : Int) : Option Int := s26F n418
/-! ### incipit/incipitref08.Put -/
def s24_j2F (r_l1 : (List Int) → Int → Int → (List Int) → Option ((Unit × Int) × List Int)) (xs341 : List Int) (n423 : Int) (n424 : Int) (xs342 : List Int) : Option ((Unit × Int) × List Int) :=
  r_l1 xs341 n423 (IntKind.i64.wrap (n424 + 1)) xs342
def s24_j2 (r_l1 : (List Int) → Int → Int → (List Int) → Option ((Unit × Int) × List Int)) (xs341 : List Int) (n423 : Int) (n424 : Int) (xs342 : List Int) : Option ((Unit × Int) × List Int) := s24_j2F r_l1 xs341 n423 n424 xs342
def s24_l1B (j2 : (List Int) → Int → Int → (List Int) → Option ((Unit × Int) × List Int)) (xs338 : List Int) (n421 : Int) (n422 : Int) (xs339 : List Int) : Option ((Unit × Int) × List Int) :=
  if n422 < (xs338.length : Int) then
  (getI xs338 n422).bind fun x20 =>
  if (1024 : Int) ≠ 0 then
  if (IntKind.i64.wrap (Int.tdiv x20 1024)) = n421 then
  (getI xs338 n422).bind fun x21 =>
  if (1024 : Int) ≠ 0 then
  if (8 : Int) ≠ 0 then
  if 0 ≤ (IntKind.i64.wrap (Int.tdiv (Int.tmod x21 1024) 8)) ∧ (IntKind.i64.wrap (Int.tdiv (Int.tmod x21 1024) 8)) < (xs339.length : Int) then
  (getI xs339 (IntKind.i64.wrap (Int.tdiv (Int.tmod x21 1024) 8))).bind fun x22 =>
  if (8 : Int) ≠ 0 then
  if (0 : Int) ≤ (IntKind.u64.wrap (Int.tmod (Int.tmod x21 1024) 8)) then
  if 0 ≤ (IntKind.i64.wrap (Int.tdiv (Int.tmod x21 1024) 8)) ∧ (IntKind.i64.wrap (Int.tdiv (Int.tmod x21 1024) 8)) < (xs339.length : Int) then
  (setI xs339 (IntKind.i64.wrap (Int.tdiv (Int.tmod x21 1024) 8)) (orI .u8 x22 (shlI .u8 1 (IntKind.u64.wrap (Int.tmod (Int.tmod x21 1024) 8))))).bind fun xs340 =>
  j2 xs338 n421 n422 xs340
  else none
  else none
  else none
  else none
  else none
  else none
  else
  j2 xs338 n421 n422 xs339
  else none
  else
  some (((), 0), xs339)
def s24_l1 (n_ : Nat) (xs338 : List Int) (n421 : Int) (n422 : Int) (xs339 : List Int) : Option ((Unit × Int) × List Int) := iterL (fun (r_ : (((List Int) × Int × Unit × Int) × (List Int)) → Option ((Unit × Int) × List Int)) (x : (((List Int) × Int × Unit × Int) × (List Int))) => s24_l1B (s24_j2 (fun xs338 n421 n422 xs339 => r_ ((xs338, n421, (), n422), xs339))) x.1.1 x.1.2.1 x.1.2.2.2 x.2) n_ ((xs338, n421, (), n422), xs339)
def s24_j1F (l1 : (List Int) → Int → Int → (List Int) → Option ((Unit × Int) × List Int)) (xs336 : List Int) (n420 : Int) (b36 : Bool) : Option ((Unit × Int) × List Int) :=
  if b36 = true then
  some (((), 1), [])
  else
  (repI 240 (0 : Int) 1).bind fun xs337 =>
  l1 xs336 n420 0 xs337
def s24_j1 (xs336 : List Int) (n420 : Int) (b36 : Bool) : Option ((Unit × Int) × List Int) := s24_j1F (s24_l1 FUEL) xs336 n420 b36
def s24F (j1 : (List Int) → Int → Bool → Option ((Unit × Int) × List Int)) (n410 : Int) (xs332 : List Int) (n411 : Int) : Option ((Unit × Int) × List Int) :=
  (s53 n410).bind fun b32 =>
  if ¬ b32 = true then
  j1 xs332 n411 true
  else
  (s22 n410 xs332).bind fun b34 =>
  if ¬ b34 = true then
  j1 xs332 n411 true
  else
  if n411 < 0 then
  j1 xs332 n411 true
  else
  (s26 n410).bind fun n419 =>
  j1 xs332 n411 (decide (n411 ≥ n419))
def s24 (n410 : Int) (xs332 : List Int) (n411 : Int) : Option ((Unit × Int) × List Int) := s24F s24_j1 n410 xs332 n411
/-! ### incipit/freemap.bits -/
def s51F (n431 : Int) (xs347 : List Int) : Option ((Unit × (Unit × Unit)) × (List Int × Int)) :=
  some (((), ((), ())), (xs347, n431))
def s51 (n431 : Int) (xs347 : List Int) : Option ((Unit × (Unit × Unit)) × (List Int × Int)) := s51F n431 xs347
/-! ### incipit/freemap.bits$1 -/
def s73_j1F (r_l1 : Int → Int → (List Int) → Int → Option (Tr Int (List Int × Int))) (n441 : Int) (n442 : Int) (b38 : Bool) (xs354 : List Int) (n443 : Int) : Option (Tr Int (List Int × Int)) :=
  if b38 = true then
  some (.done (xs354, n443))
  else
  r_l1 n441 (IntKind.i64.wrap (n442 + 1)) xs354 n443
def s73_j1 (r_l1 : Int → Int → (List Int) → Int → Option (Tr Int (List Int × Int))) (n441 : Int) (n442 : Int) (b38 : Bool) (xs354 : List Int) (n443 : Int) : Option (Tr Int (List Int × Int)) := s73_j1F r_l1 n441 n442 b38 xs354 n443
def s73_l1B (j1 : Int → Int → Bool → (List Int) → Int → Option (Tr Int (List Int × Int))) (n438 : Int) (n439 : Int) (xs353 : List Int) (n440 : Int) : Option (Tr Int (List Int × Int)) :=
  if n439 < n438 then
  if (8 : Int) ≠ 0 then
  (getI xs353 (IntKind.i64.wrap (Int.tdiv n439 8))).bind fun x24 =>
  if (8 : Int) ≠ 0 then
  if (0 : Int) ≤ (Int.tmod n439 8) then
  if (andI .u8 (shrI .u8 x24 (Int.tmod n439 8)) 1) = 1 then
  if (andI .u8 (shrI .u8 x24 (Int.tmod n439 8)) 1) = 1 then
  consT (IntKind.i64.wrap ((IntKind.i64.wrap (n440 * 1024)) + n439)) (
  j1 n438 n439 true xs353 n440)
  (j1 n438 n439 false xs353 n440)
  else
  j1 n438 n439 false xs353 n440
  else
  if (andI .u8 (shrI .u8 x24 (Int.tmod n439 8)) 1) = 1 then
  none
  else
  j1 n438 n439 false xs353 n440
  else none
  else none
  else none
  else
  some (.done (xs353, n440))
def s73_l1 (n_ : Nat) (n438 : Int) (n439 : Int) (xs353 : List Int) (n440 : Int) : Option (Tr Int (List Int × Int)) := iterL (fun (r_ : ((Unit × Unit × Unit × Int × Int) × ((List Int) × Int)) → Option (Tr Int (List Int × Int))) (x : ((Unit × Unit × Unit × Int × Int) × ((List Int) × Int))) => s73_l1B (s73_j1 (fun n438 n439 xs353 n440 => r_ (((), (), (), n438, n439), (xs353, n440)))) x.1.2.2.2.1 x.1.2.2.2.2 x.2.1 x.2.2) n_ (((), (), (), n438, n439), (xs353, n440))
def s73F (l1 : Int → Int → (List Int) → Int → Option (Tr Int (List Int × Int))) (xs352 : List Int) (n437 : Int) : Option (Tr Int (List Int × Int)) :=
  l1 (IntKind.i64.wrap ((if (128 : Int) < (xs352.length : Int) then 128 else (xs352.length : Int)) * 8)) 0 xs352 n437
def s73 (xs352 : List Int) (n437 : Int) : Option (Tr Int (List Int × Int)) := s73F (s73_l1 FUEL) xs352 n437
/-! ### slices.Equal[[]byte,byte] -/
def s52_l1B (r_l1 : (List Int) → (List Int) → Int → Int → Option Bool) (xs380 : List Int) (xs381 : List Int) (n464 : Int) (n465 : Int) : Option Bool :=
  if n465 < n464 then
  (getI xs380 n465).bind fun x27 =>
  (getI xs381 n465).bind fun x28 =>
  if x27 ≠ x28 then
  some false
  else
  r_l1 xs380 xs381 n464 (IntKind.i64.wrap (n465 + 1))
  else
  some true
def s52_l1 (n_ : Nat) (xs380 : List Int) (xs381 : List Int) (n464 : Int) (n465 : Int) : Option Bool := iterL (fun (r_ : ((List Int) × (List Int) × Int × Int) → Option Bool) (x : ((List Int) × (List Int) × Int × Int)) => s52_l1B (fun xs380 xs381 n464 n465 => r_ (xs380, xs381, n464, n465)) x.1 x.2.1 x.2.2.1 x.2.2.2) n_ (xs380, xs381, n464, n465)
def s52F (l1 : (List Int) → (List Int) → Int → Int → Option Bool) (xs378 : List Int) (xs379 : List Int) : Option Bool :=
  if (xs378.length : Int) ≠ (xs379.length : Int) then
  some false
  else
  l1 xs378 xs379 (xs378.length : Int) 0
def s52 (xs378 : List Int) (xs379 : List Int) : Option Bool := s52F (s52_l1 FUEL) xs378 xs379
/-! ### incipit/freemap.Get -/
def s23_r1B (r_r1 : (List Int) → Option ((Unit × Int) × List Int)) (n458 : Int) (xs370 : List Int) : Option ((Unit × Int) × List Int) :=
  (appI xs370 ([n458] : List Int) 8).bind fun xs372 =>
  r_r1 xs372
def s23_r1D (r_l1 : Int → (List (List Int)) → (List (List Int)) → Int → Int → (List Int) → Option ((Unit × Int) × List Int)) (n453 : Int) (xs366 : List (List Int)) (xs367 : List (List Int)) (n454 : Int) (n455 : Int) (xs373 : List Int) (n459 : Int) (xs374 : List Int) : Option ((Unit × Int) × List Int) :=
  r_l1 n453 xs366 xs367 n454 (IntKind.i64.wrap (n455 + 1)) xs374
def s23_r1 (r_l1 : Int → (List (List Int)) → (List (List Int)) → Int → Int → (List Int) → Option ((Unit × Int) × List Int)) (n453 : Int) (xs366 : List (List Int)) (xs367 : List (List Int)) (n454 : Int) (n455 : Int) (tr_ : (Tr Int ((List Int) × Int))) (xs370 : List Int) : Option ((Unit × Int) × List Int) := iterT (fun (d_ : ((List Int) × Int)) (y_ : (Unit × (List Int))) => s23_r1D r_l1 n453 xs366 xs367 n454 n455 d_.1 d_.2 y_.2) (fun (v_ : Int) (t_ : ((List Int) × Int)) (r_ : (Unit × (List Int)) → Option ((Unit × Int) × List Int)) (y_ : (Unit × (List Int))) => s23_r1B (fun xs370 => r_ ((), xs370)) v_ y_.2) tr_ ((), xs370)
def s23_j1F (r1 : Int → (List (List Int)) → (List (List Int)) → Int → Int → (Tr Int ((List Int) × Int)) → (List Int) → Option ((Unit × Int) × List Int)) (n453 : Int) (xs366 : List (List Int)) (xs367 : List (List Int)) (n454 : Int) (n455 : Int) (xs368 : List Int) (n456 : Int) (xs369 : List Int) : Option ((Unit × Int) × List Int) :=
  (s73 xs368 n456).bind fun tr4 =>
  r1 n453 xs366 xs367 n454 n455 tr4 xs369
def s23_j1 (r_l1 : Int → (List (List Int)) → (List (List Int)) → Int → Int → (List Int) → Option ((Unit × Int) × List Int)) (n453 : Int) (xs366 : List (List Int)) (xs367 : List (List Int)) (n454 : Int) (n455 : Int) (xs368 : List Int) (n456 : Int) (xs369 : List Int) : Option ((Unit × Int) × List Int) := s23_j1F (s23_r1 r_l1) n453 xs366 xs367 n454 n455 xs368 n456 xs369
def s23_j2F (r_l2 : Int → (List (List Int)) → Int → Int → (List Int) → Option ((Unit × Int) × List Int)) (n466 : Int) (xs382 : List (List Int)) (n467 : Int) (n468 : Int) (b40 : Bool) (xs383 : List Int) : Option ((Unit × Int) × List Int) :=
  if b40 = true then
  some (((), 80), [])
  else
  r_l2 n466 xs382 n467 (IntKind.i64.wrap (n468 + 1)) xs383
def s23_j2 (r_l2 : Int → (List (List Int)) → Int → Int → (List Int) → Option ((Unit × Int) × List Int)) (n466 : Int) (xs382 : List (List Int)) (n467 : Int) (n468 : Int) (b40 : Bool) (xs383 : List Int) : Option ((Unit × Int) × List Int) := s23_j2F r_l2 n466 xs382 n467 n468 b40 xs383
def s23_l2B (j2 : Int → (List (List Int)) → Int → Int → Bool → (List Int) → Option ((Unit × Int) × List Int)) (n460 : Int) (xs375 : List (List Int)) (n461 : Int) (n462 : Int) (xs376 : List Int) : Option ((Unit × Int) × List Int) :=
  if n462 < n461 then
  (getI xs375 n462).bind fun x26 =>
  (s21 n460 xs376 n462).bind fun y75 =>
  (some y75.1.2).bind fun n463 =>
  (some y75.2).bind fun xs377 =>
  if n463 ≠ 0 then
  j2 n460 xs375 n461 n462 true xs376
  else
  (s52 x26 xs377).bind fun b39 =>
  j2 n460 xs375 n461 n462 (decide (¬ b39 = true)) xs376
  else
  some (((), 0), xs376)
def s23_l2 (n_ : Nat) (n460 : Int) (xs375 : List (List Int)) (n461 : Int) (n462 : Int) (xs376 : List Int) : Option ((Unit × Int) × List Int) := iterL (fun (r_ : ((Int × Unit × (List (List Int)) × Int × Int) × (Unit × (List Int))) → Option ((Unit × Int) × List Int)) (x : ((Int × Unit × (List (List Int)) × Int × Int) × (Unit × (List Int)))) => s23_l2B (s23_j2 (fun n460 xs375 n461 n462 xs376 => r_ ((n460, (), xs375, n461, n462), ((), xs376)))) x.1.1 x.1.2.2.1 x.1.2.2.2.1 x.1.2.2.2.2 x.2.2) n_ ((n460, (), xs375, n461, n462), ((), xs376))
def s23_l1B (j1 : Int → (List (List Int)) → (List (List Int)) → Int → Int → (List Int) → Int → (List Int) → Option ((Unit × Int) × List Int)) (l2 : Int → (List (List Int)) → Int → Int → (List Int) → Option ((Unit × Int) × List Int)) (n449 : Int) (xs362 : List (List Int)) (xs363 : List (List Int)) (n450 : Int) (n451 : Int) (xs364 : List Int) : Option ((Unit × Int) × List Int) :=
  if n451 < n450 then
  (getI xs363 n451).bind fun x25 =>
  (s51 n451 x25).bind fun y74 =>
  (some y74.2.1).bind fun xs365 =>
  (some y74.2.2).bind fun n452 =>
  j1 n449 xs362 xs363 n450 n451 xs365 n452 xs364
  else
  l2 n449 xs362 (xs362.length : Int) 0 xs364
def s23_l1 (n_ : Nat) (n449 : Int) (xs362 : List (List Int)) (xs363 : List (List Int)) (n450 : Int) (n451 : Int) (xs364 : List Int) : Option ((Unit × Int) × List Int) := iterL (fun (r_ : ((Int × (List (List Int)) × Unit × (List (List Int)) × Int × Int) × (Unit × (List Int))) → Option ((Unit × Int) × List Int)) (x : ((Int × (List (List Int)) × Unit × (List (List Int)) × Int × Int) × (Unit × (List Int)))) => s23_l1B (s23_j1 (fun n449 xs362 xs363 n450 n451 xs364 => r_ ((n449, xs362, (), xs363, n450, n451), ((), xs364)))) (s23_l2 FUEL) x.1.1 x.1.2.1 x.1.2.2.2.1 x.1.2.2.2.2.1 x.1.2.2.2.2.2 x.2.2) n_ ((n449, xs362, (), xs363, n450, n451), ((), xs364))
def s23F (l1 : Int → (List (List Int)) → (List (List Int)) → Int → Int → (List Int) → Option ((Unit × Int) × List Int)) (n426 : Int) (xs344 : List (List Int)) : Option ((Unit × Int) × List Int) :=
  (s38 n426).bind fun b37 =>
  if ¬ b37 = true then
  some (((), 1), [])
  else
  (s20 n426).bind fun n427 =>
  if (xs344.length : Int) ≠ n427 then
  some (((), 80), [])
  else
  l1 n426 xs344 xs344 (xs344.length : Int) 0 []
def s23 (n426 : Int) (xs344 : List (List Int)) : Option ((Unit × Int) × List Int) := s23F (s23_l1 FUEL) n426 xs344
/-! ### incipit/incipitref08.Get -/
def s25_j1F (r_l2 : Int → (List (List Int)) → Int → Int → (List Int) → Option ((Unit × Int) × List Int)) (n491 : Int) (xs401 : List (List Int)) (n492 : Int) (n493 : Int) (xs402 : List Int) : Option ((Unit × Int) × List Int) :=
  r_l2 n491 xs401 n492 (IntKind.i64.wrap (n493 + 1)) xs402
def s25_j1 (r_l2 : Int → (List (List Int)) → Int → Int → (List Int) → Option ((Unit × Int) × List Int)) (n491 : Int) (xs401 : List (List Int)) (n492 : Int) (n493 : Int) (xs402 : List Int) : Option ((Unit × Int) × List Int) := s25_j1F r_l2 n491 xs401 n492 n493 xs402
def s25_l2B (j1 : Int → (List (List Int)) → Int → Int → (List Int) → Option ((Unit × Int) × List Int)) (r_l1 : Int → (List (List Int)) → Int → (List Int) → Option ((Unit × Int) × List Int)) (n488 : Int) (xs398 : List (List Int)) (n489 : Int) (n490 : Int) (xs399 : List Int) : Option ((Unit × Int) × List Int) :=
  if n490 < 1024 then
  (getI xs398 n489).bind fun x35 =>
  if (8 : Int) ≠ 0 then
  (getI x35 (IntKind.i64.wrap (Int.tdiv n490 8))).bind fun x36 =>
  if (8 : Int) ≠ 0 then
  if (0 : Int) ≤ (IntKind.u64.wrap (Int.tmod n490 8)) then
  if (2 : Int) ≠ 0 then
  if (Int.tmod (shrI .u8 x36 (IntKind.u64.wrap (Int.tmod n490 8))) 2) = 1 then
  (appI xs399 ([(IntKind.i64.wrap ((IntKind.i64.wrap (n489 * 1024)) + n490))] : List Int) 8).bind fun xs400 =>
  j1 n488 xs398 n489 n490 xs400
  else
  j1 n488 xs398 n489 n490 xs399
  else none
  else none
  else none
  else none
  else
  r_l1 n488 xs398 (IntKind.i64.wrap (n489 + 1)) xs399
def s25_l2 (r_l1 : Int → (List (List Int)) → Int → (List Int) → Option ((Unit × Int) × List Int)) (n_ : Nat) (n488 : Int) (xs398 : List (List Int)) (n489 : Int) (n490 : Int) (xs399 : List Int) : Option ((Unit × Int) × List Int) := iterL (fun (r_ : ((Int × (List (List Int)) × Unit × Int × Int) × (List Int)) → Option ((Unit × Int) × List Int)) (x : ((Int × (List (List Int)) × Unit × Int × Int) × (List Int))) => s25_l2B (s25_j1 (fun n488 xs398 n489 n490 xs399 => r_ ((n488, xs398, (), n489, n490), xs399))) r_l1 x.1.1 x.1.2.1 x.1.2.2.2.1 x.1.2.2.2.2 x.2) n_ ((n488, xs398, (), n489, n490), xs399)
def s25_j2F (r_l3 : Int → (List (List Int)) → Int → (List Int) → Option ((Unit × Int) × List Int)) (n497 : Int) (xs406 : List (List Int)) (n498 : Int) (b42 : Bool) (xs407 : List Int) : Option ((Unit × Int) × List Int) :=
  if b42 = true then
  some (((), 80), [])
  else
  r_l3 n497 xs406 (IntKind.i64.wrap (n498 + 1)) xs407
def s25_j2 (r_l3 : Int → (List (List Int)) → Int → (List Int) → Option ((Unit × Int) × List Int)) (n497 : Int) (xs406 : List (List Int)) (n498 : Int) (b42 : Bool) (xs407 : List Int) : Option ((Unit × Int) × List Int) := s25_j2F r_l3 n497 xs406 n498 b42 xs407
def s25_l3B (j2 : Int → (List (List Int)) → Int → Bool → (List Int) → Option ((Unit × Int) × List Int)) (n494 : Int) (xs403 : List (List Int)) (n495 : Int) (xs404 : List Int) : Option ((Unit × Int) × List Int) :=
  if n495 < (xs403.length : Int) then
  (s24 n494 xs404 n495).bind fun y77 =>
  (some y77.1.2).bind fun n496 =>
  (some y77.2).bind fun xs405 =>
  if n496 ≠ 0 then
  j2 n494 xs403 n495 true xs404
  else
  (getI xs403 n495).bind fun x37 =>
  j2 n494 xs403 n495 (decide ((strOfNums xs405).toList ≠ (strOfNums x37).toList)) xs404
  else
  some (((), 0), xs404)
def s25_l3 (n_ : Nat) (n494 : Int) (xs403 : List (List Int)) (n495 : Int) (xs404 : List Int) : Option ((Unit × Int) × List Int) := iterL (fun (r_ : ((Int × (List (List Int)) × Unit × Int) × (List Int)) → Option ((Unit × Int) × List Int)) (x : ((Int × (List (List Int)) × Unit × Int) × (List Int))) => s25_l3B (s25_j2 (fun n494 xs403 n495 xs404 => r_ ((n494, xs403, (), n495), xs404))) x.1.1 x.1.2.1 x.1.2.2.2 x.2) n_ ((n494, xs403, (), n495), xs404)
def s25_l1B (l2 : Int → (List (List Int)) → Int → Int → (List Int) → Option ((Unit × Int) × List Int)) (l3 : Int → (List (List Int)) → Int → (List Int) → Option ((Unit × Int) × List Int)) (n486 : Int) (xs396 : List (List Int)) (n487 : Int) (xs397 : List Int) : Option ((Unit × Int) × List Int) :=
  if n487 < (xs396.length : Int) then
  (getI xs396 n487).bind fun x34 =>
  if (x34.length : Int) ≠ 240 then
  some (((), 80), [])
  else
  l2 n486 xs396 n487 0 xs397
  else
  l3 n486 xs396 0 xs397
def s25_l1 (n_ : Nat) (n486 : Int) (xs396 : List (List Int)) (n487 : Int) (xs397 : List Int) : Option ((Unit × Int) × List Int) := iterL (fun (r_ : ((Int × (List (List Int)) × Unit × Int) × (List Int)) → Option ((Unit × Int) × List Int)) (x : ((Int × (List (List Int)) × Unit × Int) × (List Int))) => s25_l1B (s25_l2 (fun n486 xs396 n487 xs397 => r_ ((n486, xs396, (), n487), xs397)) FUEL) (s25_l3 FUEL) x.1.1 x.1.2.1 x.1.2.2.2 x.2) n_ ((n486, xs396, (), n487), xs397)
def s25F (l1 : Int → (List (List Int)) → Int → (List Int) → Option ((Unit × Int) × List Int)) (n470 : Int) (xs385 : List (List Int)) : Option ((Unit × Int) × List Int) :=
  (s53 n470).bind fun b41 =>
  if ¬ b41 = true then
  some (((), 1), [])
  else
  (s26 n470).bind fun n471 =>
  if (xs385.length : Int) ≠ n471 then
  some (((), 80), [])
  else
  l1 n470 xs385 0 []
def s25 (n470 : Int) (xs385 : List (List Int)) : Option ((Unit × Int) × List Int) := s25F (s25_l1 FUEL) n470 xs385
/-! ### bytes.Equal -/
def s27F (xs409 : List Int) (xs410 : List Int) : Option Bool :=
  some (decide ((strOfNums xs409).toList = (strOfNums xs410).toList))
def s27 (xs409 : List Int) (xs410 : List Int) : Option Bool := s27F xs409 xs410
/-! ### incipit/incipitlaw08.FreemapPuts -/
def s5_l1B (r_l1 : Int → (List Int) → Int → (List (List Int)) → (List (List Int)) → Int → Int → Option Bool) (n394 : Int) (xs320 : List Int) (n395 : Int) (xs321 : List (List Int)) (xs322 : List (List Int)) (n396 : Int) (n397 : Int) : Option Bool :=
  if n397 < n396 then
  (getI xs322 n397).bind fun x13 =>
  if (x13.length : Int) > 3000 then
  some true
  else
  r_l1 n394 xs320 n395 xs321 xs322 n396 (IntKind.i64.wrap (n397 + 1))
  else
  (s21 n394 xs320 n395).bind fun y71 =>
  (some y71.1.2).bind fun n409 =>
  (some y71.2).bind fun xs331 =>
  (s24 n394 xs320 n395).bind fun y72 =>
  (some y72.1.2).bind fun n425 =>
  (some y72.2).bind fun xs343 =>
  (s23 n394 xs321).bind fun y76 =>
  (some y76.1.2).bind fun n469 =>
  (some y76.2).bind fun xs384 =>
  (s25 n394 xs321).bind fun y78 =>
  (some y78.1.2).bind fun n499 =>
  (some y78.2).bind fun xs408 =>
  (s20 n394).bind fun n500 =>
  (s26 n394).bind fun n501 =>
  if n500 = n501 then
  (s27 xs331 xs343).bind fun b43 =>
  if b43 = true then
  if n409 = n425 then
  (s19 xs384 xs408).bind fun b44 =>
  if b44 = true then
  some (decide (n469 = n499))
  else
  some false
  else
  some false
  else
  some false
  else
  some false
def s5_l1 (n_ : Nat) (n394 : Int) (xs320 : List Int) (n395 : Int) (xs321 : List (List Int)) (xs322 : List (List Int)) (n396 : Int) (n397 : Int) : Option Bool := iterL (fun (r_ : (Int × (List Int) × Int × (List (List Int)) × (List (List Int)) × Int × Int) → Option Bool) (x : (Int × (List Int) × Int × (List (List Int)) × (List (List Int)) × Int × Int)) => s5_l1B (fun n394 xs320 n395 xs321 xs322 n396 n397 => r_ (n394, xs320, n395, xs321, xs322, n396, n397)) x.1 x.2.1 x.2.2.1 x.2.2.2.1 x.2.2.2.2.1 x.2.2.2.2.2.1 x.2.2.2.2.2.2) n_ (n394, xs320, n395, xs321, xs322, n396, n397)
def s5_j1F (l1 : Int → (List Int) → Int → (List (List Int)) → (List (List Int)) → Int → Int → Option Bool) (n392 : Int) (xs318 : List Int) (n393 : Int) (xs319 : List (List Int)) (b26 : Bool) : Option Bool :=
  if b26 = true then
  (s9).bind fun b27 =>
  some b27
  else
  l1 n392 xs318 n393 xs319 xs319 (xs319.length : Int) 0
def s5_j1 (n392 : Int) (xs318 : List Int) (n393 : Int) (xs319 : List (List Int)) (b26 : Bool) : Option Bool := s5_j1F (s5_l1 FUEL) n392 xs318 n393 xs319 b26
def s5F (j1 : Int → (List Int) → Int → (List (List Int)) → Bool → Option Bool) (n1 : Int) (xs1 : List Int) (n2 : Int) (xs2 : List (List Int)) : Option Bool :=
  (s9).bind fun b25 =>
  if ¬ b25 = true then
  j1 n1 xs1 n2 xs2 true
  else
  if (xs1.length : Int) > 5000 then
  j1 n1 xs1 n2 xs2 true
  else
  j1 n1 xs1 n2 xs2 (decide ((xs2.length : Int) > 8))
def s5 (n1 : Int) (xs1 : List Int) (n2 : Int) (xs2 : List (List Int)) : Option Bool := s5F s5_j1 n1 xs1 n2 xs2
end
end Go.Proofs.YtofhmhbffdoiaaaDoor
