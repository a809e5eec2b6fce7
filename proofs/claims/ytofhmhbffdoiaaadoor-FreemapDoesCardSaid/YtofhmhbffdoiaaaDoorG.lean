/- What the functions compute, in plain words of data. -/
import Derived.Test.YtofhmhbffdoiaaaDoorH
namespace Go.Proofs.YtofhmhbffdoiaaaDoor
noncomputable section
open Go Go.SX Go.VX
set_option maxRecDepth 100000
set_option linter.unusedVariables false
/-! ### incipit/freemap.may -/
def s38F (n3 : Int) : Option Bool :=
  if n3 ≥ 8 then
  some (decide (n3 ≤ 2048))
  else
  some false
def s38 (n3 : Int) : Option Bool := s38F n3
/-! ### incipit/freemap.list -/
def s39_j1F (r_l1 : Int → Int → (List Int) → Int → Int → Option Bool) (n9 : Int) (n10 : Int) (xs6 : List Int) (n11 : Int) (n12 : Int) (b2 : Bool) : Option Bool :=
  if b2 = true then
  some false
  else
  r_l1 n9 n10 xs6 n11 (IntKind.i64.wrap (n12 + 1))
def s39_j1 (r_l1 : Int → Int → (List Int) → Int → Int → Option Bool) (n9 : Int) (n10 : Int) (xs6 : List Int) (n11 : Int) (n12 : Int) (b2 : Bool) : Option Bool := s39_j1F r_l1 n9 n10 xs6 n11 n12 b2
def s39_l1B (j1 : Int → Int → (List Int) → Int → Int → Bool → Option Bool) (n5 : Int) (n6 : Int) (xs5 : List Int) (n7 : Int) (n8 : Int) : Option Bool :=
  if n8 < n7 then
  (getI xs5 n8).bind fun x1 =>
  if x1 ≤ n6 then
  j1 n5 x1 xs5 n7 n8 true
  else
  j1 n5 x1 xs5 n7 n8 (decide (x1 ≥ n5))
  else
  some true
def s39_l1 (n_ : Nat) (n5 : Int) (n6 : Int) (xs5 : List Int) (n7 : Int) (n8 : Int) : Option Bool := iterL (fun (r_ : (Int × Int × (List Int) × Int × Int) → Option Bool) (x : (Int × Int × (List Int) × Int × Int)) => s39_l1B (s39_j1 (fun n5 n6 xs5 n7 n8 => r_ (n5, n6, xs5, n7, n8))) x.1 x.2.1 x.2.2.1 x.2.2.2.1 x.2.2.2.2) n_ (n5, n6, xs5, n7, n8)
def s39F (l1 : Int → Int → (List Int) → Int → Int → Option Bool) (n4 : Int) (xs4 : List Int) : Option Bool :=
  l1 n4 (-1) xs4 (xs4.length : Int) 0
def s39 (n4 : Int) (xs4 : List Int) : Option Bool := s39F (s39_l1 FUEL) n4 xs4
/-! ### incipit/extent.New -/
def s40_j1F (n15 : Int) (b5 : Bool) : Option ((Unit × Unit) ⊕ ((Unit × Unit) × ((Int × Unit) × List Int))) :=
  if b5 = true then
  some (.inl ((), ()))
  else
  if (64 : Int) ≠ 0 then
  (repI (IntKind.i64.wrap (Int.tdiv (IntKind.i64.wrap ((IntKind.i64.wrap (n15 + 64)) - 1)) 64)) (0 : Int) 8).bind fun xs8 =>
  some (.inr (((), ()), ((n15, ()), xs8)))
  else none
def s40_j1 (n15 : Int) (b5 : Bool) : Option ((Unit × Unit) ⊕ ((Unit × Unit) × ((Int × Unit) × List Int))) := s40_j1F n15 b5
def s40F (j1 : Int → Bool → Option ((Unit × Unit) ⊕ ((Unit × Unit) × ((Int × Unit) × List Int)))) (n14 : Int) : Option ((Unit × Unit) ⊕ ((Unit × Unit) × ((Int × Unit) × List Int))) :=
  if n14 < 1 then
  j1 n14 true
  else
  j1 n14 (decide (n14 > 2048))
def s40 (n14 : Int) : Option ((Unit × Unit) ⊕ ((Unit × Unit) × ((Int × Unit) × List Int))) := s40F s40_j1 n14
def s40_v2 (n14 : Int) : Option ((Unit × Unit) × ((Int × Unit) × List Int)) := (s40 n14).bind sndR
/-! ### (*incipit/extent.Set).none -/
def s72F (n24 : Int) (xs14 : List Int) : Option (Bool × ((Int × Unit) × List Int)) :=
  some (decide (n24 = 0), ((n24, ()), xs14))
def s72 (n24 : Int) (xs14 : List Int) : Option (Bool × ((Int × Unit) × List Int)) := s72F n24 xs14
/-! ### (*incipit/extent.Set).may -/
def s66_j1F (b7 : Bool) (n26 : Int) (xs16 : List Int) : Option (Int × ((Int × Unit) × List Int)) :=
  if b7 = true then
  some (1, ((n26, ()), xs16))
  else
  some (0, ((n26, ()), xs16))
def s66_j1 (b7 : Bool) (n26 : Int) (xs16 : List Int) : Option (Int × ((Int × Unit) × List Int)) := s66_j1F b7 n26 xs16
def s66F (j1 : Bool → Int → (List Int) → Option (Int × ((Int × Unit) × List Int))) (n22 : Int) (n23 : Int) (xs13 : List Int) : Option (Int × ((Int × Unit) × List Int)) :=
  (s72 n23 xs13).bind fun y2 =>
  (some y2.1).bind fun b6 =>
  (some y2.2.1.1).bind fun n25 =>
  (some y2.2.2).bind fun xs15 =>
  if b6 = true then
  some (2, ((n25, ()), xs15))
  else
  if n22 < 0 then
  j1 true n25 xs15
  else
  j1 (decide (n22 ≥ n25)) n25 xs15
def s66 (n22 : Int) (n23 : Int) (xs13 : List Int) : Option (Int × ((Int × Unit) × List Int)) := s66F s66_j1 n22 n23 xs13
/-! ### incipit/extent.bit -/
def s67F (n33 : Int) : Option Int :=
  if (64 : Int) ≠ 0 then
  if (0 : Int) ≤ (IntKind.u64.wrap (Int.tmod n33 64)) then
  some (shlI .u64 1 (IntKind.u64.wrap (Int.tmod n33 64)))
  else none
  else none
def s67 (n33 : Int) : Option Int := s67F n33
/-! ### (*incipit/extent.Set).Has -/
def s56F (n29 : Int) (n30 : Int) (xs18 : List Int) : Option (Bool × ((Int × Unit) × List Int)) :=
  (s66 n29 n30 xs18).bind fun y4 =>
  (some y4.1).bind fun n31 =>
  (some y4.2.1.1).bind fun n32 =>
  (some y4.2.2).bind fun xs19 =>
  if n31 = 0 then
  if (64 : Int) ≠ 0 then
  if 0 ≤ (IntKind.i64.wrap (Int.tdiv n29 64)) ∧ (IntKind.i64.wrap (Int.tdiv n29 64)) < (xs19.length : Int) then
  (getI xs19 (IntKind.i64.wrap (Int.tdiv n29 64))).bind fun x3 =>
  (s67 n29).bind fun n34 =>
  some (decide ((andI .u64 x3 n34) ≠ 0), ((n32, ()), xs19))
  else none
  else none
  else
  some (false, ((n32, ()), xs19))
def s56 (n29 : Int) (n30 : Int) (xs18 : List Int) : Option (Bool × ((Int × Unit) × List Int)) := s56F n29 n30 xs18
/-! ### (*incipit/extent.Set).Add -/
def s41F (n20 : Int) (n21 : Int) (xs12 : List Int) : Option (Int × ((Int × Unit) × List Int)) :=
  (s66 n20 n21 xs12).bind fun y3 =>
  (some y3.1).bind fun n27 =>
  (some y3.2.1.1).bind fun n28 =>
  (some y3.2.2).bind fun xs17 =>
  if n27 ≠ 0 then
  some (n27, ((n28, ()), xs17))
  else
  (s56 n20 n28 xs17).bind fun y5 =>
  (some y5.1).bind fun b8 =>
  (some y5.2.1.1).bind fun n35 =>
  (some y5.2.2).bind fun xs20 =>
  if b8 = true then
  some (70, ((n35, ()), xs20))
  else
  if (64 : Int) ≠ 0 then
  if 0 ≤ (IntKind.i64.wrap (Int.tdiv n20 64)) ∧ (IntKind.i64.wrap (Int.tdiv n20 64)) < (xs20.length : Int) then
  (getI xs20 (IntKind.i64.wrap (Int.tdiv n20 64))).bind fun x4 =>
  (s67 n20).bind fun n36 =>
  if 0 ≤ (IntKind.i64.wrap (Int.tdiv n20 64)) ∧ (IntKind.i64.wrap (Int.tdiv n20 64)) < (xs20.length : Int) then
  (setI xs20 (IntKind.i64.wrap (Int.tdiv n20 64)) (orI .u64 x4 n36)).bind fun xs21 =>
  some (0, ((n35, ()), xs21))
  else none
  else none
  else none
def s41 (n20 : Int) (n21 : Int) (xs12 : List Int) : Option (Int × ((Int × Unit) × List Int)) := s41F n20 n21 xs12
/-! ### slices.Clone[[]uint64,uint64] -/
def s75_v2F (xs31 : List Int) : Option (Unit × List Int) :=
  (appI ([] : List Int) xs31 8).bind fun xs32 =>
  some ((), xs32)
def s75_v2 (xs31 : List Int) : Option (Unit × List Int) := s75_v2F xs31
/-! ### slices.Clone[[]uint64,uint64] -/
def s75_v3F (xs33 : List Int) : Option (Unit × List Int) :=
  some ((), [])
def s75_v3 (xs33 : List Int) : Option (Unit × List Int) := s75_v3F xs33
/-! ### slices.Clone[[]uint64,uint64] -/
def s75 (xs : List Int) : Option (Unit × List Int) := if xs.length = 0 then s75_v3 [] else s75_v2 xs
/-! ### (*incipit/extent.Set).Clone -/
def s65F (n45 : Int) (xs27 : List Int) : Option ((Unit × ((Int × Unit) × List Int)) ⊕ (Unit × ((Int × Unit) × List Int × (Int × Unit) × List Int))) :=
  (s72 n45 xs27).bind fun y8 =>
  (some y8.1).bind fun b9 =>
  (some y8.2.1.1).bind fun n46 =>
  (some y8.2.2).bind fun xs28 =>
  if b9 = true then
  some (.inl ((), ((n46, ()), xs28)))
  else
  (s75 xs28).bind fun y9 =>
  (some y9.2).bind fun xs35 =>
  some (.inr ((), ((n46, ()), xs28, (n46, ()), xs35)))
def s65 (n45 : Int) (xs27 : List Int) : Option ((Unit × ((Int × Unit) × List Int)) ⊕ (Unit × ((Int × Unit) × List Int × (Int × Unit) × List Int))) := s65F n45 xs27
def s65_v2 (n45 : Int) (xs27 : List Int) : Option (Unit × ((Int × Unit) × List Int × (Int × Unit) × List Int)) := (s65 n45 xs27).bind sndR
/-! ### (*incipit/extent.Set).Not -/
def s42_j1F (n53 : Int) (xs42 : List Int) (n54 : Int) (xs43 : List Int) : Option (Unit × ((Int × Unit) × List Int × (Int × Unit) × List Int)) :=
  some ((), ((n53, ()), xs42, (n54, ()), xs43))
def s42_j1 (n53 : Int) (xs42 : List Int) (n54 : Int) (xs43 : List Int) : Option (Unit × ((Int × Unit) × List Int × (Int × Unit) × List Int)) := s42_j1F n53 xs42 n54 xs43
def s42_l1B (r_l1 : Int → Int → Int → (List Int) → Int → (List Int) → Option (Unit × ((Int × Unit) × List Int × (Int × Unit) × List Int))) (j1 : Int → (List Int) → Int → (List Int) → Option (Unit × ((Int × Unit) × List Int × (Int × Unit) × List Int))) (n49 : Int) (n50 : Int) (n51 : Int) (xs38 : List Int) (n52 : Int) (xs39 : List Int) : Option (Unit × ((Int × Unit) × List Int × (Int × Unit) × List Int)) :=
  if n50 < n49 then
  if 0 ≤ n50 ∧ n50 < (xs39.length : Int) then
  (getI xs39 n50).bind fun x6 =>
  if 0 ≤ n50 ∧ n50 < (xs39.length : Int) then
  (setI xs39 n50 (cplI .u64 x6)).bind fun xs40 =>
  r_l1 n49 (IntKind.i64.wrap (n50 + 1)) n51 xs38 n52 xs40
  else none
  else none
  else
  if (64 : Int) ≠ 0 then
  if (Int.tmod n52 64) > 0 then
  if 0 ≤ (IntKind.i64.wrap ((xs39.length : Int) - 1)) ∧ (IntKind.i64.wrap ((xs39.length : Int) - 1)) < (xs39.length : Int) then
  (getI xs39 (IntKind.i64.wrap ((xs39.length : Int) - 1))).bind fun x7 =>
  if (0 : Int) ≤ (IntKind.u64.wrap (Int.tmod n52 64)) then
  if 0 ≤ (IntKind.i64.wrap ((xs39.length : Int) - 1)) ∧ (IntKind.i64.wrap ((xs39.length : Int) - 1)) < (xs39.length : Int) then
  (setI xs39 (IntKind.i64.wrap ((xs39.length : Int) - 1)) (andI .u64 x7 (IntKind.u64.wrap ((shlI .u64 1 (IntKind.u64.wrap (Int.tmod n52 64))) - 1)))).bind fun xs41 =>
  j1 n51 xs38 n52 xs41
  else none
  else none
  else none
  else
  j1 n51 xs38 n52 xs39
  else none
def s42_l1 (n_ : Nat) (n49 : Int) (n50 : Int) (n51 : Int) (xs38 : List Int) (n52 : Int) (xs39 : List Int) : Option (Unit × ((Int × Unit) × List Int × (Int × Unit) × List Int)) := iterL (fun (r_ : ((Unit × Int × Int) × ((Int × Unit) × (List Int) × (Int × Unit) × (List Int))) → Option (Unit × ((Int × Unit) × List Int × (Int × Unit) × List Int))) (x : ((Unit × Int × Int) × ((Int × Unit) × (List Int) × (Int × Unit) × (List Int)))) => s42_l1B (fun n49 n50 n51 xs38 n52 xs39 => r_ (((), n49, n50), ((n51, ()), xs38, (n52, ()), xs39))) s42_j1 x.1.2.1 x.1.2.2 x.2.1.1 x.2.2.1 x.2.2.2.1.1 x.2.2.2.2) n_ (((), n49, n50), ((n51, ()), xs38, (n52, ()), xs39))
def s42F (l1 : Int → Int → Int → (List Int) → Int → (List Int) → Option (Unit × ((Int × Unit) × List Int × (Int × Unit) × List Int))) (n44 : Int) (xs26 : List Int) : Option (Unit × ((Int × Unit) × List Int × (Int × Unit) × List Int)) :=
  (s65_v2 n44 xs26).bind fun y10 =>
  (some y10.2.1.1).bind fun n47 =>
  (some y10.2.2.1).bind fun xs36 =>
  (some y10.2.2.2.1.1).bind fun n48 =>
  (some y10.2.2.2.2).bind fun xs37 =>
  l1 (xs37.length : Int) 0 n47 xs36 n48 xs37
def s42 (n44 : Int) (xs26 : List Int) : Option (Unit × ((Int × Unit) × List Int × (Int × Unit) × List Int)) := s42F (s42_l1 FUEL) n44 xs26
/-! ### (*incipit/extent.Set).Size -/
def s50F (n62 : Int) (xs51 : List Int) : Option (Int × ((Int × Unit) × List Int)) :=
  (s72 n62 xs51).bind fun y13 =>
  (some y13.1).bind fun b10 =>
  (some y13.2.1.1).bind fun n63 =>
  (some y13.2.2).bind fun xs52 =>
  if b10 = true then
  some (0, ((n63, ()), xs52))
  else
  some (n63, ((n63, ()), xs52))
def s50 (n62 : Int) (xs51 : List Int) : Option (Int × ((Int × Unit) × List Int)) := s50F n62 xs51
/-! ### (*incipit/freemap.Map).none -/
def s68F (n60 : Int) (n61 : Int) (xs49 : List Int) (xs50 : List Int) : Option (Unit × ((Unit × Unit × Unit × Unit) × (Int × Unit) × (Int × Unit) × List Int × List Int × (Int × Unit) × List Int)) :=
  (s50 n60 xs49).bind fun y14 =>
  (some y14.1).bind fun n64 =>
  (some y14.2.1.1).bind fun n65 =>
  (some y14.2.2).bind fun xs53 =>
  (s40_v2 n64).bind fun y15 =>
  (some y15.2.1.1).bind fun n66 =>
  (some y15.2.2).bind fun xs54 =>
  some ((), (((), (), (), ()), (n65, ()), (n61, ()), xs53, xs50, (n66, ()), xs54))
def s68 (n60 : Int) (n61 : Int) (xs49 : List Int) (xs50 : List Int) : Option (Unit × ((Unit × Unit × Unit × Unit) × (Int × Unit) × (Int × Unit) × List Int × List Int × (Int × Unit) × List Int)) := s68F n60 n61 xs49 xs50
/-! ### (*incipit/freemap.Map).settle -/
def s43F (n57 : Int) (xs46 : List Int) : Option (Unit × ((Unit × Unit × Unit × Unit) × (Int × Unit) × List Int × (Int × Unit) × (Int × Unit) × (Int × Unit) × List Int × List Int × List Int)) :=
  (s65_v2 n57 xs46).bind fun y12 =>
  (some y12.2.1.1).bind fun n58 =>
  (some y12.2.2.1).bind fun xs47 =>
  (some y12.2.2.2.1.1).bind fun n59 =>
  (some y12.2.2.2.2).bind fun xs48 =>
  (s68 n58 n59 xs47 xs48).bind fun y16 =>
  (some y16.2.2.1.1).bind fun n67 =>
  (some y16.2.2.2.1.1).bind fun n68 =>
  (some y16.2.2.2.2.1).bind fun xs55 =>
  (some y16.2.2.2.2.2.1).bind fun xs56 =>
  (some y16.2.2.2.2.2.2.1.1).bind fun n69 =>
  (some y16.2.2.2.2.2.2.2).bind fun xs57 =>
  (s68 n67 n68 xs55 xs56).bind fun y17 =>
  (some y17.2.2.1.1).bind fun n70 =>
  (some y17.2.2.2.1.1).bind fun n71 =>
  (some y17.2.2.2.2.1).bind fun xs58 =>
  (some y17.2.2.2.2.2.1).bind fun xs59 =>
  (some y17.2.2.2.2.2.2.1.1).bind fun n72 =>
  (some y17.2.2.2.2.2.2.2).bind fun xs60 =>
  some ((), (((), (), (), ()), (n70, ()), xs58, (n69, ()), (n72, ()), (n71, ()), xs57, xs60, xs59))
def s43 (n57 : Int) (xs46 : List Int) : Option (Unit × ((Unit × Unit × Unit × Unit) × (Int × Unit) × List Int × (Int × Unit) × (Int × Unit) × (Int × Unit) × List Int × List Int × List Int)) := s43F n57 xs46
/-! ### incipit/freemap.Open -/
def s10_l1B (r_l1 : (List Int) → Int → Int → Int → (List Int) → Option ((Unit × Unit) ⊕ ((Unit × Unit) × ((Unit × Unit × Unit × Unit) × (Int × Unit) × (Int × Unit) × (Int × Unit) × (Int × Unit) × List Int × List Int × List Int × List Int)))) (xs23 : List Int) (n39 : Int) (n40 : Int) (n41 : Int) (xs24 : List Int) : Option ((Unit × Unit) ⊕ ((Unit × Unit) × ((Unit × Unit × Unit × Unit) × (Int × Unit) × (Int × Unit) × (Int × Unit) × (Int × Unit) × List Int × List Int × List Int × List Int))) :=
  if n40 < n39 then
  (getI xs23 n40).bind fun x5 =>
  (s41 x5 n41 xs24).bind fun y7 =>
  (some y7.1).bind fun n42 =>
  (some y7.2.1.1).bind fun n43 =>
  (some y7.2.2).bind fun xs25 =>
  r_l1 xs23 n39 (IntKind.i64.wrap (n40 + 1)) n43 xs25
  else
  (s42 n41 xs24).bind fun y11 =>
  (some y11.2.1.1).bind fun n55 =>
  (some y11.2.2.1).bind fun xs44 =>
  (some y11.2.2.2.1.1).bind fun n56 =>
  (some y11.2.2.2.2).bind fun xs45 =>
  (s43 n56 xs45).bind fun y18 =>
  (some y18.2.2.1.1).bind fun n73 =>
  (some y18.2.2.2.1).bind fun xs61 =>
  (some y18.2.2.2.2.1.1).bind fun n74 =>
  (some y18.2.2.2.2.2.1.1).bind fun n75 =>
  (some y18.2.2.2.2.2.2.1.1).bind fun n76 =>
  (some y18.2.2.2.2.2.2.2.1).bind fun xs62 =>
  (some y18.2.2.2.2.2.2.2.2.1).bind fun xs63 =>
  (some y18.2.2.2.2.2.2.2.2.2).bind fun xs64 =>
  some (.inr (((), ()), (((), (), (), ()), (n73, ()), (n74, ()), (n75, ()), (n76, ()), xs61, xs62, xs63, xs64)))
def s10_l1 (n_ : Nat) (xs23 : List Int) (n39 : Int) (n40 : Int) (n41 : Int) (xs24 : List Int) : Option ((Unit × Unit) ⊕ ((Unit × Unit) × ((Unit × Unit × Unit × Unit) × (Int × Unit) × (Int × Unit) × (Int × Unit) × (Int × Unit) × List Int × List Int × List Int × List Int))) := iterL (fun (r_ : ((Unit × (List Int) × Int × Int) × ((Int × Unit) × (List Int))) → Option ((Unit × Unit) ⊕ ((Unit × Unit) × ((Unit × Unit × Unit × Unit) × (Int × Unit) × (Int × Unit) × (Int × Unit) × (Int × Unit) × List Int × List Int × List Int × List Int)))) (x : ((Unit × (List Int) × Int × Int) × ((Int × Unit) × (List Int)))) => s10_l1B (fun xs23 n39 n40 n41 xs24 => r_ (((), xs23, n39, n40), ((n41, ()), xs24))) x.1.2.1 x.1.2.2.1 x.1.2.2.2 x.2.1.1 x.2.2) n_ (((), xs23, n39, n40), ((n41, ()), xs24))
def s10_j1F (l1 : (List Int) → Int → Int → Int → (List Int) → Option ((Unit × Unit) ⊕ ((Unit × Unit) × ((Unit × Unit × Unit × Unit) × (Int × Unit) × (Int × Unit) × (Int × Unit) × (Int × Unit) × List Int × List Int × List Int × List Int)))) (n13 : Int) (xs7 : List Int) (b4 : Bool) : Option ((Unit × Unit) ⊕ ((Unit × Unit) × ((Unit × Unit × Unit × Unit) × (Int × Unit) × (Int × Unit) × (Int × Unit) × (Int × Unit) × List Int × List Int × List Int × List Int))) :=
  if b4 = true then
  some (.inl ((), ()))
  else
  (s40_v2 n13).bind fun y1 =>
  (some y1.2.1.1).bind fun n16 =>
  (some y1.2.2).bind fun xs9 =>
  l1 xs7 (xs7.length : Int) 0 n16 xs9
def s10_j1 (n13 : Int) (xs7 : List Int) (b4 : Bool) : Option ((Unit × Unit) ⊕ ((Unit × Unit) × ((Unit × Unit × Unit × Unit) × (Int × Unit) × (Int × Unit) × (Int × Unit) × (Int × Unit) × List Int × List Int × List Int × List Int))) := s10_j1F (s10_l1 FUEL) n13 xs7 b4
def s10F (j1 : Int → (List Int) → Bool → Option ((Unit × Unit) ⊕ ((Unit × Unit) × ((Unit × Unit × Unit × Unit) × (Int × Unit) × (Int × Unit) × (Int × Unit) × (Int × Unit) × List Int × List Int × List Int × List Int)))) (n2 : Int) (xs3 : List Int) : Option ((Unit × Unit) ⊕ ((Unit × Unit) × ((Unit × Unit × Unit × Unit) × (Int × Unit) × (Int × Unit) × (Int × Unit) × (Int × Unit) × List Int × List Int × List Int × List Int))) :=
  (s38 n2).bind fun b1 =>
  if ¬ b1 = true then
  j1 n2 xs3 true
  else
  (s39 n2 xs3).bind fun b3 =>
  j1 n2 xs3 (decide (¬ b3 = true))
def s10 (n2 : Int) (xs3 : List Int) : Option ((Unit × Unit) ⊕ ((Unit × Unit) × ((Unit × Unit × Unit × Unit) × (Int × Unit) × (Int × Unit) × (Int × Unit) × (Int × Unit) × List Int × List Int × List Int × List Int))) := s10F s10_j1 n2 xs3
/-! ### (*incipit/freemap.Map).made -/
def s45F : Option Unit :=
  some ()
def s45 : Option Unit := s45F
/-! ### (*incipit/freemap.Map).AllocRun -/
def s14F (n87 : Int) : Option (Unit × Unit) :=
  (s45).bind fun y22 =>
  some ((), ())
def s14 (n87 : Int) : Option (Unit × Unit) := s14F n87
/-! ### (*incipit/freemap.Map).Alloc -/
def s12F : Option (Unit × Unit) :=
  (s14 1).bind fun y23 =>
  some ((), ())
def s12 : Option (Unit × Unit) := s12F
/-! ### (*incipit/freemap.Map).made -/
def s45_v2F (n101 : Int) (n102 : Int) (n103 : Int) (n104 : Int) (xs85 : List Int) (xs86 : List Int) (xs87 : List Int) (xs88 : List Int) : Option (Unit × ((Unit × Unit × Unit × Unit) × (Int × Unit) × (Int × Unit) × (Int × Unit) × (Int × Unit) × List Int × List Int × List Int × List Int)) :=
  some ((), (((), (), (), ()), (n101, ()), (n102, ()), (n103, ()), (n104, ()), xs85, xs86, xs87, xs88))
def s45_v2 (n101 : Int) (n102 : Int) (n103 : Int) (n104 : Int) (xs85 : List Int) (xs86 : List Int) (xs87 : List Int) (xs88 : List Int) : Option (Unit × ((Unit × Unit × Unit × Unit) × (Int × Unit) × (Int × Unit) × (Int × Unit) × (Int × Unit) × List Int × List Int × List Int × List Int)) := s45_v2F n101 n102 n103 n104 xs85 xs86 xs87 xs88
/-! ### (*incipit/extent.Set).Runs -/
def s69F (n114 : Int) (xs97 : List Int) : Option ((Unit × Unit) × ((Int × Unit) × List Int × Unit)) :=
  some (((), ()), ((n114, ()), xs97, ()))
def s69 (n114 : Int) (xs97 : List Int) : Option ((Unit × Unit) × ((Int × Unit) × List Int × Unit)) := s69F n114 xs97
/-! ### math/bits.TrailingZeros64 -/
def s77F (n133 : Int) : Option Int :=
  if n133 = 0 then
  some 64
  else
  if (0 : Int) ≤ 58 then
  (getI TAB0 (shrI .u64 (IntKind.u64.wrap ((andI .u64 n133 (IntKind.u64.wrap (0 - n133))) * 285870213051353865)) 58)).bind fun x9 =>
  some (IntKind.i64.wrap x9)
  else none
def s77 (n133 : Int) : Option Int := s77F n133
/-! ### (*incipit/extent.Set).First -/
def s71_l1B (r_l1 : Int → Int → Int → (List Int) → Option (Int × ((Int × Unit) × List Int))) (n130 : Int) (n131 : Int) (n132 : Int) (xs109 : List Int) : Option (Int × ((Int × Unit) × List Int)) :=
  if n131 < (xs109.length : Int) then
  if 0 ≤ n131 ∧ n131 < (xs109.length : Int) then
  (getI xs109 n131).bind fun x8 =>
  if (andI .u64 x8 n130) ≠ 0 then
  (s77 (andI .u64 x8 n130)).bind fun n134 =>
  some ((IntKind.i64.wrap ((IntKind.i64.wrap (n131 * 64)) + n134)), ((n132, ()), xs109))
  else
  r_l1 18446744073709551615 (IntKind.i64.wrap (n131 + 1)) n132 xs109
  else none
  else
  some (-1, ((n132, ()), xs109))
def s71_l1 (n_ : Nat) (n130 : Int) (n131 : Int) (n132 : Int) (xs109 : List Int) : Option (Int × ((Int × Unit) × List Int)) := iterL (fun (r_ : ((Unit × Int × Int) × ((Int × Unit) × (List Int))) → Option (Int × ((Int × Unit) × List Int))) (x : ((Unit × Int × Int) × ((Int × Unit) × (List Int)))) => s71_l1B (fun n130 n131 n132 xs109 => r_ (((), n130, n131), ((n132, ()), xs109))) x.1.2.1 x.1.2.2 x.2.1.1 x.2.2) n_ (((), n130, n131), ((n132, ()), xs109))
def s71_j1F (l1 : Int → Int → Int → (List Int) → Option (Int × ((Int × Unit) × List Int))) (n128 : Int) (b14 : Bool) (n129 : Int) (xs108 : List Int) : Option (Int × ((Int × Unit) × List Int)) :=
  if b14 = true then
  some (-1, ((n129, ()), xs108))
  else
  if (64 : Int) ≠ 0 then
  if (0 : Int) ≤ (IntKind.u64.wrap (Int.tmod (if (0 : Int) > n128 then 0 else n128) 64)) then
  if (64 : Int) ≠ 0 then
  l1 (shlI .u64 18446744073709551615 (IntKind.u64.wrap (Int.tmod (if (0 : Int) > n128 then 0 else n128) 64))) (IntKind.i64.wrap (Int.tdiv (if (0 : Int) > n128 then 0 else n128) 64)) n129 xs108
  else none
  else none
  else none
def s71_j1 (n128 : Int) (b14 : Bool) (n129 : Int) (xs108 : List Int) : Option (Int × ((Int × Unit) × List Int)) := s71_j1F (s71_l1 FUEL) n128 b14 n129 xs108
def s71F (j1 : Int → Bool → Int → (List Int) → Option (Int × ((Int × Unit) × List Int))) (n125 : Int) (n126 : Int) (xs106 : List Int) : Option (Int × ((Int × Unit) × List Int)) :=
  (s72 n126 xs106).bind fun y29 =>
  (some y29.1).bind fun b13 =>
  (some y29.2.1.1).bind fun n127 =>
  (some y29.2.2).bind fun xs107 =>
  if b13 = false then
  j1 n125 (decide (n125 ≥ n127)) n127 xs107
  else
  j1 n125 true n127 xs107
def s71 (n125 : Int) (n126 : Int) (xs106 : List Int) : Option (Int × ((Int × Unit) × List Int)) := s71F s71_j1 n125 n126 xs106
/-! ### (*incipit/extent.Set).Runs$1 -/
def s76_j2F (r_l1 : Int → Int → (List Int) → Int → (List Int) → Option (Tr (Int × Int) (Unit × (Int × Unit) × List Int))) (n146 : Int) (b15 : Bool) (n147 : Int) (xs116 : List Int) (n148 : Int) (xs117 : List Int) : Option (Tr (Int × Int) (Unit × (Int × Unit) × List Int)) :=
  if b15 = true then
  some (.done ((), (n147, ()), xs116))
  else
  (s71 n146 n147 xs116).bind fun y32 =>
  (some y32.1).bind fun n149 =>
  (some y32.2.1.1).bind fun n150 =>
  (some y32.2.2).bind fun xs118 =>
  r_l1 n149 n150 xs118 n148 xs117
def s76_j2 (r_l1 : Int → Int → (List Int) → Int → (List Int) → Option (Tr (Int × Int) (Unit × (Int × Unit) × List Int))) (n146 : Int) (b15 : Bool) (n147 : Int) (xs116 : List Int) (n148 : Int) (xs117 : List Int) : Option (Tr (Int × Int) (Unit × (Int × Unit) × List Int)) := s76_j2F r_l1 n146 b15 n147 xs116 n148 xs117
def s76_j1F (j2 : Int → Bool → Int → (List Int) → Int → (List Int) → Option (Tr (Int × Int) (Unit × (Int × Unit) × List Int))) (n142 : Int) (n143 : Int) (n144 : Int) (xs114 : List Int) (n145 : Int) (xs115 : List Int) : Option (Tr (Int × Int) (Unit × (Int × Unit) × List Int)) :=
  consT (n142, (IntKind.i64.wrap (n143 - n142))) (
  j2 n143 true n144 xs114 n145 xs115)
  (j2 n143 false n144 xs114 n145 xs115)
def s76_j1 (r_l1 : Int → Int → (List Int) → Int → (List Int) → Option (Tr (Int × Int) (Unit × (Int × Unit) × List Int))) (n142 : Int) (n143 : Int) (n144 : Int) (xs114 : List Int) (n145 : Int) (xs115 : List Int) : Option (Tr (Int × Int) (Unit × (Int × Unit) × List Int)) := s76_j1F (s76_j2 r_l1) n142 n143 n144 xs114 n145 xs115
def s76_l1B (j1 : Int → Int → Int → (List Int) → Int → (List Int) → Option (Tr (Int × Int) (Unit × (Int × Unit) × List Int))) (n137 : Int) (n138 : Int) (xs111 : List Int) (n139 : Int) (xs112 : List Int) : Option (Tr (Int × Int) (Unit × (Int × Unit) × List Int)) :=
  if n137 ≥ 0 then
  (s71 n137 n139 xs112).bind fun y31 =>
  (some y31.1).bind fun n140 =>
  (some y31.2.1.1).bind fun n141 =>
  (some y31.2.2).bind fun xs113 =>
  if n140 < 0 then
  j1 n137 n138 n138 xs111 n141 xs113
  else
  j1 n137 n140 n138 xs111 n141 xs113
  else
  some (.done ((), (n138, ()), xs111))
def s76_l1 (n_ : Nat) (n137 : Int) (n138 : Int) (xs111 : List Int) (n139 : Int) (xs112 : List Int) : Option (Tr (Int × Int) (Unit × (Int × Unit) × List Int)) := iterL (fun (r_ : ((Unit × Unit × Unit × Int) × (Unit × (Int × Unit) × (List Int) × (Int × Unit) × (List Int))) → Option (Tr (Int × Int) (Unit × (Int × Unit) × List Int))) (x : ((Unit × Unit × Unit × Int) × (Unit × (Int × Unit) × (List Int) × (Int × Unit) × (List Int)))) => s76_l1B (s76_j1 (fun n137 n138 xs111 n139 xs112 => r_ (((), (), (), n137), ((), (n138, ()), xs111, (n139, ()), xs112)))) x.1.2.2.2 x.2.2.1.1 x.2.2.2.1 x.2.2.2.2.1.1 x.2.2.2.2.2) n_ (((), (), (), n137), ((), (n138, ()), xs111, (n139, ()), xs112))
def s76F (l1 : Int → Int → (List Int) → Int → (List Int) → Option (Tr (Int × Int) (Unit × (Int × Unit) × List Int))) (n122 : Int) (xs103 : List Int) : Option (Tr (Int × Int) (Unit × (Int × Unit) × List Int)) :=
  (s42 n122 xs103).bind fun y28 =>
  (some y28.2.1.1).bind fun n123 =>
  (some y28.2.2.1).bind fun xs104 =>
  (some y28.2.2.2.1.1).bind fun n124 =>
  (some y28.2.2.2.2).bind fun xs105 =>
  (s71 0 n123 xs104).bind fun y30 =>
  (some y30.1).bind fun n135 =>
  (some y30.2.1.1).bind fun n136 =>
  (some y30.2.2).bind fun xs110 =>
  l1 n135 n136 xs110 n124 xs105
def s76 (n122 : Int) (xs103 : List Int) : Option (Tr (Int × Int) (Unit × (Int × Unit) × List Int)) := s76F (s76_l1 FUEL) n122 xs103
/-! ### (*incipit/freemap.Map).row -/
def s46_j2F (n165 : Int) (n166 : Int) (n167 : Int) (n168 : Int) (xs127 : List Int) (xs128 : List Int) (xs129 : List Int) (xs130 : List Int) (n169 : Int) : Option (Int × ((Unit × Unit × Unit × Unit) × (Int × Unit) × (Int × Unit) × (Int × Unit) × (Int × Unit) × List Int × List Int × List Int × List Int)) :=
  some (n169, (((), (), (), ()), (n165, ()), (n166, ()), (n167, ()), (n168, ()), xs127, xs128, xs129, xs130))
def s46_j2 (n165 : Int) (n166 : Int) (n167 : Int) (n168 : Int) (xs127 : List Int) (xs128 : List Int) (xs129 : List Int) (xs130 : List Int) (n169 : Int) : Option (Int × ((Unit × Unit × Unit × Unit) × (Int × Unit) × (Int × Unit) × (Int × Unit) × (Int × Unit) × List Int × List Int × List Int × List Int)) := s46_j2F n165 n166 n167 n168 xs127 xs128 xs129 xs130 n169
def s46_r1B (r_r1 : Int → Int → Int → (List Int) → (List Int) → (List Int) → Int → Int → Option (Int × ((Unit × Unit × Unit × Unit) × (Int × Unit) × (Int × Unit) × (Int × Unit) × (Int × Unit) × List Int × List Int × List Int × List Int))) (j2 : Int → Int → Int → Int → (List Int) → (List Int) → (List Int) → (List Int) → Int → Option (Int × ((Unit × Unit × Unit × Unit) × (Int × Unit) × (Int × Unit) × (Int × Unit) × (Int × Unit) × List Int × List Int × List Int × List Int))) (n157 : Int) (n158 : Int) (n156 : Int) (xs122 : List Int) (n151 : Int) (n152 : Int) (n153 : Int) (xs119 : List Int) (xs120 : List Int) (xs121 : List Int) (n154 : Int) (n155 : Int) : Option (Int × ((Unit × Unit × Unit × Unit) × (Int × Unit) × (Int × Unit) × (Int × Unit) × (Int × Unit) × List Int × List Int × List Int × List Int)) :=
  if n158 < n154 then
  r_r1 n151 n152 n153 xs119 xs120 xs121 n154 n155
  else
  j2 n156 n151 n152 n153 xs122 xs119 xs120 xs121 n157
def s46_r1D (j2 : Int → Int → Int → Int → (List Int) → (List Int) → (List Int) → (List Int) → Int → Option (Int × ((Unit × Unit × Unit × Unit) × (Int × Unit) × (Int × Unit) × (Int × Unit) × (Int × Unit) × List Int × List Int × List Int × List Int))) (n159 : Int) (xs123 : List Int) (n160 : Int) (n161 : Int) (n162 : Int) (xs124 : List Int) (xs125 : List Int) (xs126 : List Int) (n163 : Int) (n164 : Int) : Option (Int × ((Unit × Unit × Unit × Unit) × (Int × Unit) × (Int × Unit) × (Int × Unit) × (Int × Unit) × List Int × List Int × List Int × List Int)) :=
  j2 n159 n160 n161 n162 xs123 xs124 xs125 xs126 n164
def s46_r1 (tr_ : (Tr (Int × Int) (Unit × (Int × Unit) × (List Int)))) (n151 : Int) (n152 : Int) (n153 : Int) (xs119 : List Int) (xs120 : List Int) (xs121 : List Int) (n154 : Int) (n155 : Int) : Option (Int × ((Unit × Unit × Unit × Unit) × (Int × Unit) × (Int × Unit) × (Int × Unit) × (Int × Unit) × List Int × List Int × List Int × List Int)) := iterT (fun (d_ : (Unit × (Int × Unit) × (List Int))) (y_ : ((Unit × Unit × Unit × Unit) × (Int × Unit) × (Int × Unit) × (Int × Unit) × (List Int) × (List Int) × (List Int) × Int × Int)) => s46_r1D s46_j2 d_.2.1.1 d_.2.2 y_.2.1.1 y_.2.2.1.1 y_.2.2.2.1.1 y_.2.2.2.2.1 y_.2.2.2.2.2.1 y_.2.2.2.2.2.2.1 y_.2.2.2.2.2.2.2.1 y_.2.2.2.2.2.2.2.2) (fun (v_ : (Int × Int)) (t_ : (Unit × (Int × Unit) × (List Int))) (r_ : ((Unit × Unit × Unit × Unit) × (Int × Unit) × (Int × Unit) × (Int × Unit) × (List Int) × (List Int) × (List Int) × Int × Int) → Option (Int × ((Unit × Unit × Unit × Unit) × (Int × Unit) × (Int × Unit) × (Int × Unit) × (Int × Unit) × List Int × List Int × List Int × List Int))) (y_ : ((Unit × Unit × Unit × Unit) × (Int × Unit) × (Int × Unit) × (Int × Unit) × (List Int) × (List Int) × (List Int) × Int × Int)) => s46_r1B (fun n151 n152 n153 xs119 xs120 xs121 n154 n155 => r_ (((), (), (), ()), (n151, ()), (n152, ()), (n153, ()), xs119, xs120, xs121, n154, n155)) s46_j2 v_.1 v_.2 t_.2.1.1 t_.2.2 y_.2.1.1 y_.2.2.1.1 y_.2.2.2.1.1 y_.2.2.2.2.1 y_.2.2.2.2.2.1 y_.2.2.2.2.2.2.1 y_.2.2.2.2.2.2.2.1 y_.2.2.2.2.2.2.2.2) tr_ (((), (), (), ()), (n151, ()), (n152, ()), (n153, ()), xs119, xs120, xs121, n154, n155)
def s46_j1F (r1 : (Tr (Int × Int) (Unit × (Int × Unit) × (List Int))) → Int → Int → Int → (List Int) → (List Int) → (List Int) → Int → Int → Option (Int × ((Unit × Unit × Unit × Unit) × (Int × Unit) × (Int × Unit) × (Int × Unit) × (Int × Unit) × List Int × List Int × List Int × List Int))) (n116 : Int) (n117 : Int) (n118 : Int) (n119 : Int) (xs99 : List Int) (xs100 : List Int) (xs101 : List Int) (xs102 : List Int) (n120 : Int) (n121 : Int) : Option (Int × ((Unit × Unit × Unit × Unit) × (Int × Unit) × (Int × Unit) × (Int × Unit) × (Int × Unit) × List Int × List Int × List Int × List Int)) :=
  (s76 n116 xs99).bind fun tr1 =>
  r1 tr1 n117 n118 n119 xs100 xs101 xs102 n120 n121
def s46_j1 (n116 : Int) (n117 : Int) (n118 : Int) (n119 : Int) (xs99 : List Int) (xs100 : List Int) (xs101 : List Int) (xs102 : List Int) (n120 : Int) (n121 : Int) : Option (Int × ((Unit × Unit × Unit × Unit) × (Int × Unit) × (Int × Unit) × (Int × Unit) × (Int × Unit) × List Int × List Int × List Int × List Int)) := s46_j1F s46_r1 n116 n117 n118 n119 xs99 xs100 xs101 xs102 n120 n121
def s46F (j1 : Int → Int → Int → Int → (List Int) → (List Int) → (List Int) → (List Int) → Int → Int → Option (Int × ((Unit × Unit × Unit × Unit) × (Int × Unit) × (Int × Unit) × (Int × Unit) × (Int × Unit) × List Int × List Int × List Int × List Int))) (n109 : Int) (n110 : Int) (n111 : Int) (n112 : Int) (n113 : Int) (xs93 : List Int) (xs94 : List Int) (xs95 : List Int) (xs96 : List Int) : Option (Int × ((Unit × Unit × Unit × Unit) × (Int × Unit) × (Int × Unit) × (Int × Unit) × (Int × Unit) × List Int × List Int × List Int × List Int)) :=
  (s69 n110 xs93).bind fun y27 =>
  (some y27.2.1.1).bind fun n115 =>
  (some y27.2.2.1).bind fun xs98 =>
  j1 n115 n111 n112 n113 xs98 xs94 xs95 xs96 n109 (-1)
def s46 (n109 : Int) (n110 : Int) (n111 : Int) (n112 : Int) (n113 : Int) (xs93 : List Int) (xs94 : List Int) (xs95 : List Int) (xs96 : List Int) : Option (Int × ((Unit × Unit × Unit × Unit) × (Int × Unit) × (Int × Unit) × (Int × Unit) × (Int × Unit) × List Int × List Int × List Int × List Int)) := s46F s46_j1 n109 n110 n111 n112 n113 xs93 xs94 xs95 xs96
/-! ### (*incipit/extent.Set).Drop -/
def s48F (n188 : Int) (n189 : Int) (xs143 : List Int) : Option (Int × ((Int × Unit) × List Int)) :=
  (s66 n188 n189 xs143).bind fun y34 =>
  (some y34.1).bind fun n190 =>
  (some y34.2.1.1).bind fun n191 =>
  (some y34.2.2).bind fun xs144 =>
  if n190 ≠ 0 then
  some (n190, ((n191, ()), xs144))
  else
  (s56 n188 n191 xs144).bind fun y35 =>
  (some y35.1).bind fun b16 =>
  (some y35.2.1.1).bind fun n192 =>
  (some y35.2.2).bind fun xs145 =>
  if ¬ b16 = true then
  some (4, ((n192, ()), xs145))
  else
  if (64 : Int) ≠ 0 then
  if 0 ≤ (IntKind.i64.wrap (Int.tdiv n188 64)) ∧ (IntKind.i64.wrap (Int.tdiv n188 64)) < (xs145.length : Int) then
  (getI xs145 (IntKind.i64.wrap (Int.tdiv n188 64))).bind fun x10 =>
  (s67 n188).bind fun n193 =>
  if 0 ≤ (IntKind.i64.wrap (Int.tdiv n188 64)) ∧ (IntKind.i64.wrap (Int.tdiv n188 64)) < (xs145.length : Int) then
  (setI xs145 (IntKind.i64.wrap (Int.tdiv n188 64)) (andNotI .u64 x10 n193)).bind fun xs146 =>
  some (0, ((n192, ()), xs146))
  else none
  else none
  else none
def s48 (n188 : Int) (n189 : Int) (xs143 : List Int) : Option (Int × ((Int × Unit) × List Int)) := s48F n188 n189 xs143
/-! ### (*incipit/freemap.Map).take -/
def s47_l1B (r_l1 : Int → Int → Int → Int → Int → Int → Int → (List Int) → (List Int) → (List Int) → (List Int) → Option (Unit × ((Unit × Unit × Unit × Unit) × (Int × Unit) × (Int × Unit) × (Int × Unit) × (Int × Unit) × List Int × List Int × List Int × List Int))) (n181 : Int) (n182 : Int) (n183 : Int) (n184 : Int) (n185 : Int) (n186 : Int) (n187 : Int) (xs139 : List Int) (xs140 : List Int) (xs141 : List Int) (xs142 : List Int) : Option (Unit × ((Unit × Unit × Unit × Unit) × (Int × Unit) × (Int × Unit) × (Int × Unit) × (Int × Unit) × List Int × List Int × List Int × List Int)) :=
  if n183 < n182 then
  (s48 (IntKind.i64.wrap (n181 + n183)) n184 xs139).bind fun y36 =>
  (some y36.1).bind fun n194 =>
  (some y36.2.1.1).bind fun n195 =>
  (some y36.2.2).bind fun xs147 =>
  (s41 (IntKind.i64.wrap (n181 + n183)) n186 xs141).bind fun y37 =>
  (some y37.1).bind fun n196 =>
  (some y37.2.1.1).bind fun n197 =>
  (some y37.2.2).bind fun xs148 =>
  r_l1 n181 n182 (IntKind.i64.wrap (n183 + 1)) n195 n185 n197 n187 xs147 xs140 xs148 xs142
  else
  some ((), (((), (), (), ()), (n184, ()), (n185, ()), (n186, ()), (n187, ()), xs139, xs140, xs141, xs142))
def s47_l1 (n_ : Nat) (n181 : Int) (n182 : Int) (n183 : Int) (n184 : Int) (n185 : Int) (n186 : Int) (n187 : Int) (xs139 : List Int) (xs140 : List Int) (xs141 : List Int) (xs142 : List Int) : Option (Unit × ((Unit × Unit × Unit × Unit) × (Int × Unit) × (Int × Unit) × (Int × Unit) × (Int × Unit) × List Int × List Int × List Int × List Int)) := iterL (fun (r_ : ((Unit × Int × Int × Int) × ((Unit × Unit × Unit × Unit) × (Int × Unit) × (Int × Unit) × (Int × Unit) × (Int × Unit) × (List Int) × (List Int) × (List Int) × (List Int))) → Option (Unit × ((Unit × Unit × Unit × Unit) × (Int × Unit) × (Int × Unit) × (Int × Unit) × (Int × Unit) × List Int × List Int × List Int × List Int))) (x : ((Unit × Int × Int × Int) × ((Unit × Unit × Unit × Unit) × (Int × Unit) × (Int × Unit) × (Int × Unit) × (Int × Unit) × (List Int) × (List Int) × (List Int) × (List Int)))) => s47_l1B (fun n181 n182 n183 n184 n185 n186 n187 xs139 xs140 xs141 xs142 => r_ (((), n181, n182, n183), (((), (), (), ()), (n184, ()), (n185, ()), (n186, ()), (n187, ()), xs139, xs140, xs141, xs142))) x.1.2.1 x.1.2.2.1 x.1.2.2.2 x.2.2.1.1 x.2.2.2.1.1 x.2.2.2.2.1.1 x.2.2.2.2.2.1.1 x.2.2.2.2.2.2.1 x.2.2.2.2.2.2.2.1 x.2.2.2.2.2.2.2.2.1 x.2.2.2.2.2.2.2.2.2) n_ (((), n181, n182, n183), (((), (), (), ()), (n184, ()), (n185, ()), (n186, ()), (n187, ()), xs139, xs140, xs141, xs142))
def s47F (l1 : Int → Int → Int → Int → Int → Int → Int → (List Int) → (List Int) → (List Int) → (List Int) → Option (Unit × ((Unit × Unit × Unit × Unit) × (Int × Unit) × (Int × Unit) × (Int × Unit) × (Int × Unit) × List Int × List Int × List Int × List Int))) (n175 : Int) (n176 : Int) (n177 : Int) (n178 : Int) (n179 : Int) (n180 : Int) (xs135 : List Int) (xs136 : List Int) (xs137 : List Int) (xs138 : List Int) : Option (Unit × ((Unit × Unit × Unit × Unit) × (Int × Unit) × (Int × Unit) × (Int × Unit) × (Int × Unit) × List Int × List Int × List Int × List Int)) :=
  l1 n175 n176 0 n177 n178 n179 n180 xs135 xs136 xs137 xs138
def s47 (n175 : Int) (n176 : Int) (n177 : Int) (n178 : Int) (n179 : Int) (n180 : Int) (xs135 : List Int) (xs136 : List Int) (xs137 : List Int) (xs138 : List Int) : Option (Unit × ((Unit × Unit × Unit × Unit) × (Int × Unit) × (Int × Unit) × (Int × Unit) × (Int × Unit) × List Int × List Int × List Int × List Int)) := s47F (s47_l1 FUEL) n175 n176 n177 n178 n179 n180 xs135 xs136 xs137 xs138
/-! ### (*incipit/freemap.Map).AllocRun -/
def s14_v2F (n96 : Int) (n97 : Int) (n98 : Int) (n99 : Int) (n100 : Int) (xs81 : List Int) (xs82 : List Int) (xs83 : List Int) (xs84 : List Int) : Option ((Int × Int) × ((Unit × Unit × Unit × Unit) × (Int × Unit) × (Int × Unit) × (Int × Unit) × (Int × Unit) × List Int × List Int × List Int × List Int)) :=
  (s45_v2 n97 n98 n99 n100 xs81 xs82 xs83 xs84).bind fun y26 =>
  (some y26.2.2.1.1).bind fun n105 =>
  (some y26.2.2.2.1.1).bind fun n106 =>
  (some y26.2.2.2.2.1.1).bind fun n107 =>
  (some y26.2.2.2.2.2.1.1).bind fun n108 =>
  (some y26.2.2.2.2.2.2.1).bind fun xs89 =>
  (some y26.2.2.2.2.2.2.2.1).bind fun xs90 =>
  (some y26.2.2.2.2.2.2.2.2.1).bind fun xs91 =>
  (some y26.2.2.2.2.2.2.2.2.2).bind fun xs92 =>
  if n96 < 1 then
  some ((0, 1), (((), (), (), ()), (n105, ()), (n106, ()), (n107, ()), (n108, ()), xs89, xs90, xs91, xs92))
  else
  (s46 n96 n105 n106 n107 n108 xs89 xs90 xs91 xs92).bind fun y33 =>
  (some y33.1).bind fun n170 =>
  (some y33.2.2.1.1).bind fun n171 =>
  (some y33.2.2.2.1.1).bind fun n172 =>
  (some y33.2.2.2.2.1.1).bind fun n173 =>
  (some y33.2.2.2.2.2.1.1).bind fun n174 =>
  (some y33.2.2.2.2.2.2.1).bind fun xs131 =>
  (some y33.2.2.2.2.2.2.2.1).bind fun xs132 =>
  (some y33.2.2.2.2.2.2.2.2.1).bind fun xs133 =>
  (some y33.2.2.2.2.2.2.2.2.2).bind fun xs134 =>
  if n170 < 0 then
  some ((0, 6), (((), (), (), ()), (n171, ()), (n172, ()), (n173, ()), (n174, ()), xs131, xs132, xs133, xs134))
  else
  (s47 n170 n96 n171 n172 n173 n174 xs131 xs132 xs133 xs134).bind fun y38 =>
  (some y38.2.2.1.1).bind fun n198 =>
  (some y38.2.2.2.1.1).bind fun n199 =>
  (some y38.2.2.2.2.1.1).bind fun n200 =>
  (some y38.2.2.2.2.2.1.1).bind fun n201 =>
  (some y38.2.2.2.2.2.2.1).bind fun xs149 =>
  (some y38.2.2.2.2.2.2.2.1).bind fun xs150 =>
  (some y38.2.2.2.2.2.2.2.2.1).bind fun xs151 =>
  (some y38.2.2.2.2.2.2.2.2.2).bind fun xs152 =>
  some ((n170, 0), (((), (), (), ()), (n198, ()), (n199, ()), (n200, ()), (n201, ()), xs149, xs150, xs151, xs152))
def s14_v2 (n96 : Int) (n97 : Int) (n98 : Int) (n99 : Int) (n100 : Int) (xs81 : List Int) (xs82 : List Int) (xs83 : List Int) (xs84 : List Int) : Option ((Int × Int) × ((Unit × Unit × Unit × Unit) × (Int × Unit) × (Int × Unit) × (Int × Unit) × (Int × Unit) × List Int × List Int × List Int × List Int)) := s14_v2F n96 n97 n98 n99 n100 xs81 xs82 xs83 xs84
/-! ### (*incipit/freemap.Map).Alloc -/
def s12_v2F (n92 : Int) (n93 : Int) (n94 : Int) (n95 : Int) (xs77 : List Int) (xs78 : List Int) (xs79 : List Int) (xs80 : List Int) : Option ((Int × Int) × ((Unit × Unit × Unit × Unit) × (Int × Unit) × (Int × Unit) × (Int × Unit) × (Int × Unit) × List Int × List Int × List Int × List Int)) :=
  (s14_v2 1 n92 n93 n94 n95 xs77 xs78 xs79 xs80).bind fun y39 =>
  (some y39.1.1).bind fun n202 =>
  (some y39.1.2).bind fun n203 =>
  (some y39.2.2.1.1).bind fun n204 =>
  (some y39.2.2.2.1.1).bind fun n205 =>
  (some y39.2.2.2.2.1.1).bind fun n206 =>
  (some y39.2.2.2.2.2.1.1).bind fun n207 =>
  (some y39.2.2.2.2.2.2.1).bind fun xs153 =>
  (some y39.2.2.2.2.2.2.2.1).bind fun xs154 =>
  (some y39.2.2.2.2.2.2.2.2.1).bind fun xs155 =>
  (some y39.2.2.2.2.2.2.2.2.2).bind fun xs156 =>
  some ((n202, n203), (((), (), (), ()), (n204, ()), (n205, ()), (n206, ()), (n207, ()), xs153, xs154, xs155, xs156))
def s12_v2 (n92 : Int) (n93 : Int) (n94 : Int) (n95 : Int) (xs77 : List Int) (xs78 : List Int) (xs79 : List Int) (xs80 : List Int) : Option ((Int × Int) × ((Unit × Unit × Unit × Unit) × (Int × Unit) × (Int × Unit) × (Int × Unit) × (Int × Unit) × List Int × List Int × List Int × List Int)) := s12_v2F n92 n93 n94 n95 xs77 xs78 xs79 xs80
/-! ### (*incipit/freemap.Map).Has -/
def s32F (n229 : Int) (n230 : Int) (n231 : Int) (n232 : Int) (n233 : Int) (xs173 : List Int) (xs174 : List Int) (xs175 : List Int) (xs176 : List Int) : Option (Bool × ((Unit × Unit × Unit × Unit) × (Int × Unit) × (Int × Unit) × (Int × Unit) × (Int × Unit) × List Int × List Int × List Int × List Int)) :=
  (s45_v2 n230 n231 n232 n233 xs173 xs174 xs175 xs176).bind fun y43 =>
  (some y43.2.2.1.1).bind fun n234 =>
  (some y43.2.2.2.1.1).bind fun n235 =>
  (some y43.2.2.2.2.1.1).bind fun n236 =>
  (some y43.2.2.2.2.2.1.1).bind fun n237 =>
  (some y43.2.2.2.2.2.2.1).bind fun xs177 =>
  (some y43.2.2.2.2.2.2.2.1).bind fun xs178 =>
  (some y43.2.2.2.2.2.2.2.2.1).bind fun xs179 =>
  (some y43.2.2.2.2.2.2.2.2.2).bind fun xs180 =>
  if n229 ≥ 0 then
  (s50 n234 xs177).bind fun y44 =>
  (some y44.1).bind fun n238 =>
  (some y44.2.1.1).bind fun n239 =>
  (some y44.2.2).bind fun xs181 =>
  if n229 < n238 then
  (s56 n229 n239 xs181).bind fun y45 =>
  (some y45.1).bind fun b17 =>
  (some y45.2.1.1).bind fun n240 =>
  (some y45.2.2).bind fun xs182 =>
  if ¬ b17 = true then
  (s56 n229 n235 xs178).bind fun y46 =>
  (some y46.1).bind fun b18 =>
  (some y46.2.1.1).bind fun n241 =>
  (some y46.2.2).bind fun xs183 =>
  some (decide (¬ b18 = true), (((), (), (), ()), (n240, ()), (n241, ()), (n236, ()), (n237, ()), xs182, xs183, xs179, xs180))
  else
  some (false, (((), (), (), ()), (n240, ()), (n235, ()), (n236, ()), (n237, ()), xs182, xs178, xs179, xs180))
  else
  some (false, (((), (), (), ()), (n239, ()), (n235, ()), (n236, ()), (n237, ()), xs181, xs178, xs179, xs180))
  else
  some (false, (((), (), (), ()), (n234, ()), (n235, ()), (n236, ()), (n237, ()), xs177, xs178, xs179, xs180))
def s32 (n229 : Int) (n230 : Int) (n231 : Int) (n232 : Int) (n233 : Int) (xs173 : List Int) (xs174 : List Int) (xs175 : List Int) (xs176 : List Int) : Option (Bool × ((Unit × Unit × Unit × Unit) × (Int × Unit) × (Int × Unit) × (Int × Unit) × (Int × Unit) × List Int × List Int × List Int × List Int)) := s32F n229 n230 n231 n232 n233 xs173 xs174 xs175 xs176
/-! ### (*incipit/freemap.Map).Free -/
def s15F (n220 : Int) (n221 : Int) (n222 : Int) (n223 : Int) (n224 : Int) (xs165 : List Int) (xs166 : List Int) (xs167 : List Int) (xs168 : List Int) : Option (Int × ((Unit × Unit × Unit × Unit) × (Int × Unit) × (Int × Unit) × (Int × Unit) × (Int × Unit) × List Int × List Int × List Int × List Int)) :=
  (s45_v2 n221 n222 n223 n224 xs165 xs166 xs167 xs168).bind fun y42 =>
  (some y42.2.2.1.1).bind fun n225 =>
  (some y42.2.2.2.1.1).bind fun n226 =>
  (some y42.2.2.2.2.1.1).bind fun n227 =>
  (some y42.2.2.2.2.2.1.1).bind fun n228 =>
  (some y42.2.2.2.2.2.2.1).bind fun xs169 =>
  (some y42.2.2.2.2.2.2.2.1).bind fun xs170 =>
  (some y42.2.2.2.2.2.2.2.2.1).bind fun xs171 =>
  (some y42.2.2.2.2.2.2.2.2.2).bind fun xs172 =>
  (s32 n220 n225 n226 n227 n228 xs169 xs170 xs171 xs172).bind fun y47 =>
  (some y47.1).bind fun b19 =>
  (some y47.2.2.1.1).bind fun n242 =>
  (some y47.2.2.2.1.1).bind fun n243 =>
  (some y47.2.2.2.2.1.1).bind fun n244 =>
  (some y47.2.2.2.2.2.1.1).bind fun n245 =>
  (some y47.2.2.2.2.2.2.1).bind fun xs184 =>
  (some y47.2.2.2.2.2.2.2.1).bind fun xs185 =>
  (some y47.2.2.2.2.2.2.2.2.1).bind fun xs186 =>
  (some y47.2.2.2.2.2.2.2.2.2).bind fun xs187 =>
  if ¬ b19 = true then
  some (4, (((), (), (), ()), (n242, ()), (n243, ()), (n244, ()), (n245, ()), xs184, xs185, xs186, xs187))
  else
  (s48 n220 n244 xs186).bind fun y48 =>
  (some y48.1).bind fun n246 =>
  (some y48.2.1.1).bind fun n247 =>
  (some y48.2.2).bind fun xs188 =>
  if n246 = 0 then
  (s41 n220 n242 xs184).bind fun y49 =>
  (some y49.1).bind fun n248 =>
  (some y49.2.1.1).bind fun n249 =>
  (some y49.2.2).bind fun xs189 =>
  some (n248, (((), (), (), ()), (n249, ()), (n243, ()), (n247, ()), (n245, ()), xs189, xs185, xs188, xs187))
  else
  (s41 n220 n243 xs185).bind fun y50 =>
  (some y50.1).bind fun n250 =>
  (some y50.2.1.1).bind fun n251 =>
  (some y50.2.2).bind fun xs190 =>
  some (n250, (((), (), (), ()), (n242, ()), (n251, ()), (n247, ()), (n245, ()), xs184, xs190, xs188, xs187))
def s15 (n220 : Int) (n221 : Int) (n222 : Int) (n223 : Int) (n224 : Int) (xs165 : List Int) (xs166 : List Int) (xs167 : List Int) (xs168 : List Int) : Option (Int × ((Unit × Unit × Unit × Unit) × (Int × Unit) × (Int × Unit) × (Int × Unit) × (Int × Unit) × List Int × List Int × List Int × List Int)) := s15F n220 n221 n222 n223 n224 xs165 xs166 xs167 xs168
/-! ### (*incipit/extent.Set).All -/
def s49F (n280 : Int) (xs215 : List Int) : Option ((Unit × Unit) × ((Int × Unit) × List Int × Unit)) :=
  some (((), ()), ((n280, ()), xs215, ()))
def s49 (n280 : Int) (xs215 : List Int) : Option ((Unit × Unit) × ((Int × Unit) × List Int × Unit)) := s49F n280 xs215
/-! ### (*incipit/extent.Set).All$1 -/
def s70_j1F (r_l1 : Int → Int → (List Int) → Option (Tr Int (Unit × (Int × Unit) × List Int))) (n291 : Int) (b21 : Bool) (n292 : Int) (xs224 : List Int) : Option (Tr Int (Unit × (Int × Unit) × List Int)) :=
  if b21 = true then
  some (.done ((), (n292, ()), xs224))
  else
  (s71 (IntKind.i64.wrap (n291 + 1)) n292 xs224).bind fun y57 =>
  (some y57.1).bind fun n293 =>
  (some y57.2.1.1).bind fun n294 =>
  (some y57.2.2).bind fun xs225 =>
  r_l1 n293 n294 xs225
def s70_j1 (r_l1 : Int → Int → (List Int) → Option (Tr Int (Unit × (Int × Unit) × List Int))) (n291 : Int) (b21 : Bool) (n292 : Int) (xs224 : List Int) : Option (Tr Int (Unit × (Int × Unit) × List Int)) := s70_j1F r_l1 n291 b21 n292 xs224
def s70_l1B (j1 : Int → Bool → Int → (List Int) → Option (Tr Int (Unit × (Int × Unit) × List Int))) (n289 : Int) (n290 : Int) (xs223 : List Int) : Option (Tr Int (Unit × (Int × Unit) × List Int)) :=
  if n289 ≥ 0 then
  consT n289 (
  j1 n289 true n290 xs223)
  (j1 n289 false n290 xs223)
  else
  some (.done ((), (n290, ()), xs223))
def s70_l1 (n_ : Nat) (n289 : Int) (n290 : Int) (xs223 : List Int) : Option (Tr Int (Unit × (Int × Unit) × List Int)) := iterL (fun (r_ : ((Unit × Unit × Int) × (Unit × (Int × Unit) × (List Int))) → Option (Tr Int (Unit × (Int × Unit) × List Int))) (x : ((Unit × Unit × Int) × (Unit × (Int × Unit) × (List Int)))) => s70_l1B (s70_j1 (fun n289 n290 xs223 => r_ (((), (), n289), ((), (n290, ()), xs223)))) x.1.2.2 x.2.2.1.1 x.2.2.2) n_ (((), (), n289), ((), (n290, ()), xs223))
def s70F (l1 : Int → Int → (List Int) → Option (Tr Int (Unit × (Int × Unit) × List Int))) (n286 : Int) (xs221 : List Int) : Option (Tr Int (Unit × (Int × Unit) × List Int)) :=
  (s71 0 n286 xs221).bind fun y56 =>
  (some y56.1).bind fun n287 =>
  (some y56.2.1.1).bind fun n288 =>
  (some y56.2.2).bind fun xs222 =>
  l1 n287 n288 xs222
def s70 (n286 : Int) (xs221 : List Int) : Option (Tr Int (Unit × (Int × Unit) × List Int)) := s70F (s70_l1 FUEL) n286 xs221
/-! ### (*incipit/freemap.Map).none -/
def s68_v2F (n312 : Int) (n313 : Int) (n314 : Int) (n315 : Int) (xs241 : List Int) (xs242 : List Int) (xs243 : List Int) (xs244 : List Int) : Option (Unit × ((Unit × Unit × Unit × Unit) × (Int × Unit) × (Int × Unit) × (Int × Unit) × (Int × Unit) × List Int × List Int × List Int × List Int × (Int × Unit) × List Int)) :=
  (s50 n312 xs241).bind fun y60 =>
  (some y60.1).bind fun n316 =>
  (some y60.2.1.1).bind fun n317 =>
  (some y60.2.2).bind fun xs245 =>
  (s40_v2 n316).bind fun y61 =>
  (some y61.2.1.1).bind fun n318 =>
  (some y61.2.2).bind fun xs246 =>
  some ((), (((), (), (), ()), (n317, ()), (n313, ()), (n314, ()), (n315, ()), xs245, xs242, xs243, xs244, (n318, ()), xs246))
def s68_v2 (n312 : Int) (n313 : Int) (n314 : Int) (n315 : Int) (xs241 : List Int) (xs242 : List Int) (xs243 : List Int) (xs244 : List Int) : Option (Unit × ((Unit × Unit × Unit × Unit) × (Int × Unit) × (Int × Unit) × (Int × Unit) × (Int × Unit) × List Int × List Int × List Int × List Int × (Int × Unit) × List Int)) := s68_v2F n312 n313 n314 n315 xs241 xs242 xs243 xs244
/-! ### (*incipit/freemap.Map).settle -/
def s43_v2F (n306 : Int) (n307 : Int) (n308 : Int) (n309 : Int) (xs235 : List Int) (xs236 : List Int) (xs237 : List Int) (xs238 : List Int) : Option (Unit × ((Unit × Unit × Unit × Unit) × (Int × Unit) × (Int × Unit) × (Int × Unit) × (Int × Unit) × List Int × List Int × List Int × List Int × (Int × Unit) × (Int × Unit) × (Int × Unit) × List Int × List Int × List Int)) :=
  (s65_v2 n306 xs235).bind fun y59 =>
  (some y59.2.1.1).bind fun n310 =>
  (some y59.2.2.1).bind fun xs239 =>
  (some y59.2.2.2.1.1).bind fun n311 =>
  (some y59.2.2.2.2).bind fun xs240 =>
  (s68_v2 n310 n307 n308 n311 xs239 xs236 xs237 xs240).bind fun y62 =>
  (some y62.2.2.1.1).bind fun n319 =>
  (some y62.2.2.2.1.1).bind fun n320 =>
  (some y62.2.2.2.2.1.1).bind fun n321 =>
  (some y62.2.2.2.2.2.1.1).bind fun n322 =>
  (some y62.2.2.2.2.2.2.1).bind fun xs247 =>
  (some y62.2.2.2.2.2.2.2.1).bind fun xs248 =>
  (some y62.2.2.2.2.2.2.2.2.1).bind fun xs249 =>
  (some y62.2.2.2.2.2.2.2.2.2.1).bind fun xs250 =>
  (some y62.2.2.2.2.2.2.2.2.2.2.1.1).bind fun n323 =>
  (some y62.2.2.2.2.2.2.2.2.2.2.2).bind fun xs251 =>
  (s68_v2 n319 n320 n321 n322 xs247 xs248 xs249 xs250).bind fun y63 =>
  (some y63.2.2.1.1).bind fun n324 =>
  (some y63.2.2.2.1.1).bind fun n325 =>
  (some y63.2.2.2.2.1.1).bind fun n326 =>
  (some y63.2.2.2.2.2.1.1).bind fun n327 =>
  (some y63.2.2.2.2.2.2.1).bind fun xs252 =>
  (some y63.2.2.2.2.2.2.2.1).bind fun xs253 =>
  (some y63.2.2.2.2.2.2.2.2.1).bind fun xs254 =>
  (some y63.2.2.2.2.2.2.2.2.2.1).bind fun xs255 =>
  (some y63.2.2.2.2.2.2.2.2.2.2.1.1).bind fun n328 =>
  (some y63.2.2.2.2.2.2.2.2.2.2.2).bind fun xs256 =>
  some ((), (((), (), (), ()), (n324, ()), (n325, ()), (n326, ()), (n309, ()), xs252, xs253, xs254, xs238, (n323, ()), (n328, ()), (n327, ()), xs251, xs256, xs255))
def s43_v2 (n306 : Int) (n307 : Int) (n308 : Int) (n309 : Int) (xs235 : List Int) (xs236 : List Int) (xs237 : List Int) (xs238 : List Int) : Option (Unit × ((Unit × Unit × Unit × Unit) × (Int × Unit) × (Int × Unit) × (Int × Unit) × (Int × Unit) × List Int × List Int × List Int × List Int × (Int × Unit) × (Int × Unit) × (Int × Unit) × List Int × List Int × List Int)) := s43_v2F n306 n307 n308 n309 xs235 xs236 xs237 xs238
/-! ### (*incipit/freemap.Map).Commit -/
def s16_r1B (r_r1 : Int → Int → Int → (List Int) → (List Int) → (List Int) → Option (Unit × ((Unit × Unit × Unit × Unit) × (Int × Unit) × (Int × Unit) × (Int × Unit) × (Int × Unit) × List Int × List Int × List Int × List Int × (Int × Unit) × (Int × Unit) × (Int × Unit) × List Int × List Int × List Int))) (n299 : Int) (n295 : Int) (n296 : Int) (n297 : Int) (xs226 : List Int) (xs227 : List Int) (xs228 : List Int) : Option (Unit × ((Unit × Unit × Unit × Unit) × (Int × Unit) × (Int × Unit) × (Int × Unit) × (Int × Unit) × List Int × List Int × List Int × List Int × (Int × Unit) × (Int × Unit) × (Int × Unit) × List Int × List Int × List Int)) :=
  (s41 n299 n295 xs226).bind fun y58 =>
  (some y58.1).bind fun n300 =>
  (some y58.2.1.1).bind fun n301 =>
  (some y58.2.2).bind fun xs230 =>
  r_r1 n301 n296 n297 xs230 xs227 xs228
def s16_r1D (n302 : Int) (xs231 : List Int) (n303 : Int) (n304 : Int) (n305 : Int) (xs232 : List Int) (xs233 : List Int) (xs234 : List Int) : Option (Unit × ((Unit × Unit × Unit × Unit) × (Int × Unit) × (Int × Unit) × (Int × Unit) × (Int × Unit) × List Int × List Int × List Int × List Int × (Int × Unit) × (Int × Unit) × (Int × Unit) × List Int × List Int × List Int)) :=
  (s43_v2 n303 n302 n304 n305 xs232 xs231 xs233 xs234).bind fun y64 =>
  (some y64.2.2.1.1).bind fun n329 =>
  (some y64.2.2.2.1.1).bind fun n330 =>
  (some y64.2.2.2.2.1.1).bind fun n331 =>
  (some y64.2.2.2.2.2.1.1).bind fun n332 =>
  (some y64.2.2.2.2.2.2.1).bind fun xs257 =>
  (some y64.2.2.2.2.2.2.2.1).bind fun xs258 =>
  (some y64.2.2.2.2.2.2.2.2.1).bind fun xs259 =>
  (some y64.2.2.2.2.2.2.2.2.2.1).bind fun xs260 =>
  (some y64.2.2.2.2.2.2.2.2.2.2.1.1).bind fun n333 =>
  (some y64.2.2.2.2.2.2.2.2.2.2.2.1.1).bind fun n334 =>
  (some y64.2.2.2.2.2.2.2.2.2.2.2.2.1.1).bind fun n335 =>
  (some y64.2.2.2.2.2.2.2.2.2.2.2.2.2.1).bind fun xs261 =>
  (some y64.2.2.2.2.2.2.2.2.2.2.2.2.2.2.1).bind fun xs262 =>
  (some y64.2.2.2.2.2.2.2.2.2.2.2.2.2.2.2).bind fun xs263 =>
  some ((), (((), (), (), ()), (n329, ()), (n330, ()), (n331, ()), (n332, ()), xs257, xs258, xs259, xs260, (n333, ()), (n334, ()), (n335, ()), xs261, xs262, xs263))
def s16_r1 (tr_ : (Tr Int (Unit × (Int × Unit) × (List Int)))) (n295 : Int) (n296 : Int) (n297 : Int) (xs226 : List Int) (xs227 : List Int) (xs228 : List Int) : Option (Unit × ((Unit × Unit × Unit × Unit) × (Int × Unit) × (Int × Unit) × (Int × Unit) × (Int × Unit) × List Int × List Int × List Int × List Int × (Int × Unit) × (Int × Unit) × (Int × Unit) × List Int × List Int × List Int)) := iterT (fun (d_ : (Unit × (Int × Unit) × (List Int))) (y_ : ((Unit × Unit × Unit × Unit) × (Int × Unit) × (Int × Unit) × (Int × Unit) × (List Int) × (List Int) × (List Int) × Unit)) => s16_r1D d_.2.1.1 d_.2.2 y_.2.1.1 y_.2.2.1.1 y_.2.2.2.1.1 y_.2.2.2.2.1 y_.2.2.2.2.2.1 y_.2.2.2.2.2.2.1) (fun (v_ : Int) (t_ : (Unit × (Int × Unit) × (List Int))) (r_ : ((Unit × Unit × Unit × Unit) × (Int × Unit) × (Int × Unit) × (Int × Unit) × (List Int) × (List Int) × (List Int) × Unit) → Option (Unit × ((Unit × Unit × Unit × Unit) × (Int × Unit) × (Int × Unit) × (Int × Unit) × (Int × Unit) × List Int × List Int × List Int × List Int × (Int × Unit) × (Int × Unit) × (Int × Unit) × List Int × List Int × List Int))) (y_ : ((Unit × Unit × Unit × Unit) × (Int × Unit) × (Int × Unit) × (Int × Unit) × (List Int) × (List Int) × (List Int) × Unit)) => s16_r1B (fun n295 n296 n297 xs226 xs227 xs228 => r_ (((), (), (), ()), (n295, ()), (n296, ()), (n297, ()), xs226, xs227, xs228, ())) v_ y_.2.1.1 y_.2.2.1.1 y_.2.2.2.1.1 y_.2.2.2.2.1 y_.2.2.2.2.2.1 y_.2.2.2.2.2.2.1) tr_ (((), (), (), ()), (n295, ()), (n296, ()), (n297, ()), xs226, xs227, xs228, ())
def s16_j1F (r1 : (Tr Int (Unit × (Int × Unit) × (List Int))) → Int → Int → Int → (List Int) → (List Int) → (List Int) → Option (Unit × ((Unit × Unit × Unit × Unit) × (Int × Unit) × (Int × Unit) × (Int × Unit) × (Int × Unit) × List Int × List Int × List Int × List Int × (Int × Unit) × (Int × Unit) × (Int × Unit) × List Int × List Int × List Int))) (n282 : Int) (n283 : Int) (n284 : Int) (n285 : Int) (xs217 : List Int) (xs218 : List Int) (xs219 : List Int) (xs220 : List Int) : Option (Unit × ((Unit × Unit × Unit × Unit) × (Int × Unit) × (Int × Unit) × (Int × Unit) × (Int × Unit) × List Int × List Int × List Int × List Int × (Int × Unit) × (Int × Unit) × (Int × Unit) × List Int × List Int × List Int)) :=
  (s70 n283 xs218).bind fun tr2 =>
  r1 tr2 n282 n284 n285 xs217 xs219 xs220
def s16_j1 (n282 : Int) (n283 : Int) (n284 : Int) (n285 : Int) (xs217 : List Int) (xs218 : List Int) (xs219 : List Int) (xs220 : List Int) : Option (Unit × ((Unit × Unit × Unit × Unit) × (Int × Unit) × (Int × Unit) × (Int × Unit) × (Int × Unit) × List Int × List Int × List Int × List Int × (Int × Unit) × (Int × Unit) × (Int × Unit) × List Int × List Int × List Int)) := s16_j1F s16_r1 n282 n283 n284 n285 xs217 xs218 xs219 xs220
def s16F (j1 : Int → Int → Int → Int → (List Int) → (List Int) → (List Int) → (List Int) → Option (Unit × ((Unit × Unit × Unit × Unit) × (Int × Unit) × (Int × Unit) × (Int × Unit) × (Int × Unit) × List Int × List Int × List Int × List Int × (Int × Unit) × (Int × Unit) × (Int × Unit) × List Int × List Int × List Int))) (n272 : Int) (n273 : Int) (n274 : Int) (n275 : Int) (xs207 : List Int) (xs208 : List Int) (xs209 : List Int) (xs210 : List Int) : Option (Unit × ((Unit × Unit × Unit × Unit) × (Int × Unit) × (Int × Unit) × (Int × Unit) × (Int × Unit) × List Int × List Int × List Int × List Int × (Int × Unit) × (Int × Unit) × (Int × Unit) × List Int × List Int × List Int)) :=
  (s45_v2 n272 n273 n274 n275 xs207 xs208 xs209 xs210).bind fun y54 =>
  (some y54.2.2.1.1).bind fun n276 =>
  (some y54.2.2.2.1.1).bind fun n277 =>
  (some y54.2.2.2.2.1.1).bind fun n278 =>
  (some y54.2.2.2.2.2.1.1).bind fun n279 =>
  (some y54.2.2.2.2.2.2.1).bind fun xs211 =>
  (some y54.2.2.2.2.2.2.2.1).bind fun xs212 =>
  (some y54.2.2.2.2.2.2.2.2.1).bind fun xs213 =>
  (some y54.2.2.2.2.2.2.2.2.2).bind fun xs214 =>
  (s49 n277 xs212).bind fun y55 =>
  (some y55.2.1.1).bind fun n281 =>
  (some y55.2.2.1).bind fun xs216 =>
  j1 n276 n281 n278 n279 xs211 xs216 xs213 xs214
def s16 (n272 : Int) (n273 : Int) (n274 : Int) (n275 : Int) (xs207 : List Int) (xs208 : List Int) (xs209 : List Int) (xs210 : List Int) : Option (Unit × ((Unit × Unit × Unit × Unit) × (Int × Unit) × (Int × Unit) × (Int × Unit) × (Int × Unit) × List Int × List Int × List Int × List Int × (Int × Unit) × (Int × Unit) × (Int × Unit) × List Int × List Int × List Int)) := s16F s16_j1 n272 n273 n274 n275 xs207 xs208 xs209 xs210
/-! ### (*incipit/freemap.Map).Taken -/
def s17_j1F (r_l1 : Int → Int → Int → Int → Int → Int → (List Int) → (List Int) → (List Int) → (List Int) → (List Int) → Option (Unit × ((Unit × Unit × Unit × Unit) × (Int × Unit) × (Int × Unit) × (Int × Unit) × (Int × Unit) × List Int × List Int × List Int × List Int × List Int))) (n379 : Int) (n380 : Int) (n381 : Int) (n382 : Int) (n383 : Int) (n384 : Int) (xs304 : List Int) (xs305 : List Int) (xs306 : List Int) (xs307 : List Int) (xs308 : List Int) : Option (Unit × ((Unit × Unit × Unit × Unit) × (Int × Unit) × (Int × Unit) × (Int × Unit) × (Int × Unit) × List Int × List Int × List Int × List Int × List Int)) :=
  r_l1 n379 (IntKind.i64.wrap (n380 + 1)) n381 n382 n383 n384 xs304 xs305 xs306 xs307 xs308
def s17_j1 (r_l1 : Int → Int → Int → Int → Int → Int → (List Int) → (List Int) → (List Int) → (List Int) → (List Int) → Option (Unit × ((Unit × Unit × Unit × Unit) × (Int × Unit) × (Int × Unit) × (Int × Unit) × (Int × Unit) × List Int × List Int × List Int × List Int × List Int))) (n379 : Int) (n380 : Int) (n381 : Int) (n382 : Int) (n383 : Int) (n384 : Int) (xs304 : List Int) (xs305 : List Int) (xs306 : List Int) (xs307 : List Int) (xs308 : List Int) : Option (Unit × ((Unit × Unit × Unit × Unit) × (Int × Unit) × (Int × Unit) × (Int × Unit) × (Int × Unit) × List Int × List Int × List Int × List Int × List Int)) := s17_j1F r_l1 n379 n380 n381 n382 n383 n384 xs304 xs305 xs306 xs307 xs308
def s17_l1B (j1 : Int → Int → Int → Int → Int → Int → (List Int) → (List Int) → (List Int) → (List Int) → (List Int) → Option (Unit × ((Unit × Unit × Unit × Unit) × (Int × Unit) × (Int × Unit) × (Int × Unit) × (Int × Unit) × List Int × List Int × List Int × List Int × List Int))) (n369 : Int) (n370 : Int) (n371 : Int) (n372 : Int) (n373 : Int) (n374 : Int) (xs294 : List Int) (xs295 : List Int) (xs296 : List Int) (xs297 : List Int) (xs298 : List Int) : Option (Unit × ((Unit × Unit × Unit × Unit) × (Int × Unit) × (Int × Unit) × (Int × Unit) × (Int × Unit) × List Int × List Int × List Int × List Int × List Int)) :=
  if n370 < n369 then
  (s32 n370 n371 n372 n373 n374 xs294 xs295 xs296 xs297).bind fun y69 =>
  (some y69.1).bind fun b23 =>
  (some y69.2.2.1.1).bind fun n375 =>
  (some y69.2.2.2.1.1).bind fun n376 =>
  (some y69.2.2.2.2.1.1).bind fun n377 =>
  (some y69.2.2.2.2.2.1.1).bind fun n378 =>
  (some y69.2.2.2.2.2.2.1).bind fun xs299 =>
  (some y69.2.2.2.2.2.2.2.1).bind fun xs300 =>
  (some y69.2.2.2.2.2.2.2.2.1).bind fun xs301 =>
  (some y69.2.2.2.2.2.2.2.2.2).bind fun xs302 =>
  if b23 = true then
  (appI xs298 ([n370] : List Int) 8).bind fun xs303 =>
  j1 n369 n370 n375 n376 n377 n378 xs299 xs300 xs301 xs302 xs303
  else
  j1 n369 n370 n375 n376 n377 n378 xs299 xs300 xs301 xs302 xs298
  else
  some ((), (((), (), (), ()), (n371, ()), (n372, ()), (n373, ()), (n374, ()), xs294, xs295, xs296, xs297, xs298))
def s17_l1 (n_ : Nat) (n369 : Int) (n370 : Int) (n371 : Int) (n372 : Int) (n373 : Int) (n374 : Int) (xs294 : List Int) (xs295 : List Int) (xs296 : List Int) (xs297 : List Int) (xs298 : List Int) : Option (Unit × ((Unit × Unit × Unit × Unit) × (Int × Unit) × (Int × Unit) × (Int × Unit) × (Int × Unit) × List Int × List Int × List Int × List Int × List Int)) := iterL (fun (r_ : ((Unit × Unit × Int × Int) × ((Unit × Unit × Unit × Unit) × (Int × Unit) × (Int × Unit) × (Int × Unit) × (Int × Unit) × (List Int) × (List Int) × (List Int) × (List Int) × (List Int))) → Option (Unit × ((Unit × Unit × Unit × Unit) × (Int × Unit) × (Int × Unit) × (Int × Unit) × (Int × Unit) × List Int × List Int × List Int × List Int × List Int))) (x : ((Unit × Unit × Int × Int) × ((Unit × Unit × Unit × Unit) × (Int × Unit) × (Int × Unit) × (Int × Unit) × (Int × Unit) × (List Int) × (List Int) × (List Int) × (List Int) × (List Int)))) => s17_l1B (s17_j1 (fun n369 n370 n371 n372 n373 n374 xs294 xs295 xs296 xs297 xs298 => r_ (((), (), n369, n370), (((), (), (), ()), (n371, ()), (n372, ()), (n373, ()), (n374, ()), xs294, xs295, xs296, xs297, xs298)))) x.1.2.2.1 x.1.2.2.2 x.2.2.1.1 x.2.2.2.1.1 x.2.2.2.2.1.1 x.2.2.2.2.2.1.1 x.2.2.2.2.2.2.1 x.2.2.2.2.2.2.2.1 x.2.2.2.2.2.2.2.2.1 x.2.2.2.2.2.2.2.2.2.1 x.2.2.2.2.2.2.2.2.2.2) n_ (((), (), n369, n370), (((), (), (), ()), (n371, ()), (n372, ()), (n373, ()), (n374, ()), xs294, xs295, xs296, xs297, xs298))
def s17F (l1 : Int → Int → Int → Int → Int → Int → (List Int) → (List Int) → (List Int) → (List Int) → (List Int) → Option (Unit × ((Unit × Unit × Unit × Unit) × (Int × Unit) × (Int × Unit) × (Int × Unit) × (Int × Unit) × List Int × List Int × List Int × List Int × List Int))) (n343 : Int) (n344 : Int) (n345 : Int) (n346 : Int) (xs271 : List Int) (xs272 : List Int) (xs273 : List Int) (xs274 : List Int) : Option (Unit × ((Unit × Unit × Unit × Unit) × (Int × Unit) × (Int × Unit) × (Int × Unit) × (Int × Unit) × List Int × List Int × List Int × List Int × List Int)) :=
  (s45_v2 n343 n344 n345 n346 xs271 xs272 xs273 xs274).bind fun y66 =>
  (some y66.2.2.1.1).bind fun n347 =>
  (some y66.2.2.2.1.1).bind fun n348 =>
  (some y66.2.2.2.2.1.1).bind fun n349 =>
  (some y66.2.2.2.2.2.1.1).bind fun n350 =>
  (some y66.2.2.2.2.2.2.1).bind fun xs275 =>
  (some y66.2.2.2.2.2.2.2.1).bind fun xs276 =>
  (some y66.2.2.2.2.2.2.2.2.1).bind fun xs277 =>
  (some y66.2.2.2.2.2.2.2.2.2).bind fun xs278 =>
  (s50 n347 xs275).bind fun y67 =>
  (some y67.1).bind fun n351 =>
  (some y67.2.1.1).bind fun n352 =>
  (some y67.2.2).bind fun xs279 =>
  l1 n351 0 n352 n348 n349 n350 xs279 xs276 xs277 xs278 []
def s17 (n343 : Int) (n344 : Int) (n345 : Int) (n346 : Int) (xs271 : List Int) (xs272 : List Int) (xs273 : List Int) (xs274 : List Int) : Option (Unit × ((Unit × Unit × Unit × Unit) × (Int × Unit) × (Int × Unit) × (Int × Unit) × (Int × Unit) × List Int × List Int × List Int × List Int × List Int)) := s17F (s17_l1 FUEL) n343 n344 n345 n346 xs271 xs272 xs273 xs274
/-! ### slices.Equal[[]int,int] -/
def s19_l1B (r_l1 : (List Int) → (List Int) → Int → Int → Option Bool) (xs316 : List Int) (xs317 : List Int) (n389 : Int) (n390 : Int) : Option Bool :=
  if n390 < n389 then
  (getI xs316 n390).bind fun x11 =>
  (getI xs317 n390).bind fun x12 =>
  if x11 ≠ x12 then
  some false
  else
  r_l1 xs316 xs317 n389 (IntKind.i64.wrap (n390 + 1))
  else
  some true
def s19_l1 (n_ : Nat) (xs316 : List Int) (xs317 : List Int) (n389 : Int) (n390 : Int) : Option Bool := iterL (fun (r_ : ((List Int) × (List Int) × Int × Int) → Option Bool) (x : ((List Int) × (List Int) × Int × Int)) => s19_l1B (fun xs316 xs317 n389 n390 => r_ (xs316, xs317, n389, n390)) x.1 x.2.1 x.2.2.1 x.2.2.2) n_ (xs316, xs317, n389, n390)
def s19F (l1 : (List Int) → (List Int) → Int → Int → Option Bool) (xs314 : List Int) (xs315 : List Int) : Option Bool :=
  if (xs314.length : Int) ≠ (xs315.length : Int) then
  some false
  else
  l1 xs314 xs315 (xs314.length : Int) 0
def s19 (xs314 : List Int) (xs315 : List Int) : Option Bool := s19F (s19_l1 FUEL) xs314 xs315
/-! ### incipit/incipitlaw08.live -/
def s9_j2F (b11 : Bool) : Option Bool :=
  if b11 = true then
  some false
  else
  (s12).bind fun y24 =>
  (s14 2).bind fun y25 =>
  some false
def s9_j2 (b11 : Bool) : Option Bool := s9_j2F b11
def s9_j1F (j2 : Bool → Option Bool) (n81 : Int) : Option Bool :=
  if n81 ≠ 0 then
  j2 true
  else
  j2 true
def s9_j1 (n81 : Int) : Option Bool := s9_j1F s9_j2 n81
def s9_j5F (b20 : Bool) (n262 : Int) (n263 : Int) (n264 : Int) (n265 : Int) (xs199 : List Int) (xs200 : List Int) (xs201 : List Int) (xs202 : List Int) : Option Bool :=
  if b20 = true then
  some false
  else
  (s12_v2 n262 n263 n264 n265 xs199 xs200 xs201 xs202).bind fun y53 =>
  (some y53.1.1).bind fun n266 =>
  (some y53.1.2).bind fun n267 =>
  (some y53.2.2.1.1).bind fun n268 =>
  (some y53.2.2.2.1.1).bind fun n269 =>
  (some y53.2.2.2.2.1.1).bind fun n270 =>
  (some y53.2.2.2.2.2.1.1).bind fun n271 =>
  (some y53.2.2.2.2.2.2.1).bind fun xs203 =>
  (some y53.2.2.2.2.2.2.2.1).bind fun xs204 =>
  (some y53.2.2.2.2.2.2.2.2.1).bind fun xs205 =>
  (some y53.2.2.2.2.2.2.2.2.2).bind fun xs206 =>
  if n266 = 2 then
  if n267 = 0 then
  (s16 n268 n269 n270 n271 xs203 xs204 xs205 xs206).bind fun y65 =>
  (some y65.2.2.1.1).bind fun n336 =>
  (some y65.2.2.2.1.1).bind fun n337 =>
  (some y65.2.2.2.2.1.1).bind fun n338 =>
  (some y65.2.2.2.2.2.1.1).bind fun n339 =>
  (some y65.2.2.2.2.2.2.1).bind fun xs264 =>
  (some y65.2.2.2.2.2.2.2.1).bind fun xs265 =>
  (some y65.2.2.2.2.2.2.2.2.1).bind fun xs266 =>
  (some y65.2.2.2.2.2.2.2.2.2.1).bind fun xs267 =>
  (some y65.2.2.2.2.2.2.2.2.2.2.1.1).bind fun n340 =>
  (some y65.2.2.2.2.2.2.2.2.2.2.2.1.1).bind fun n341 =>
  (some y65.2.2.2.2.2.2.2.2.2.2.2.2.1.1).bind fun n342 =>
  (some y65.2.2.2.2.2.2.2.2.2.2.2.2.2.1).bind fun xs268 =>
  (some y65.2.2.2.2.2.2.2.2.2.2.2.2.2.2.1).bind fun xs269 =>
  (some y65.2.2.2.2.2.2.2.2.2.2.2.2.2.2.2).bind fun xs270 =>
  (s17 n336 n340 n341 n342 xs264 xs268 xs269 xs270).bind fun y70 =>
  (some y70.2.2.1.1).bind fun n385 =>
  (some y70.2.2.2.1.1).bind fun n386 =>
  (some y70.2.2.2.2.1.1).bind fun n387 =>
  (some y70.2.2.2.2.2.1.1).bind fun n388 =>
  (some y70.2.2.2.2.2.2.1).bind fun xs309 =>
  (some y70.2.2.2.2.2.2.2.1).bind fun xs310 =>
  (some y70.2.2.2.2.2.2.2.2.1).bind fun xs311 =>
  (some y70.2.2.2.2.2.2.2.2.2.1).bind fun xs312 =>
  (some y70.2.2.2.2.2.2.2.2.2.2).bind fun xs313 =>
  (s19 xs313 ([0, 1, 2, 5, 6] : List Int)).bind fun b24 =>
  some b24
  else
  some false
  else
  some false
def s9_j5 (b20 : Bool) (n262 : Int) (n263 : Int) (n264 : Int) (n265 : Int) (xs199 : List Int) (xs200 : List Int) (xs201 : List Int) (xs202 : List Int) : Option Bool := s9_j5F b20 n262 n263 n264 n265 xs199 xs200 xs201 xs202
def s9_j4F (j5 : Bool → Int → Int → Int → Int → (List Int) → (List Int) → (List Int) → (List Int) → Option Bool) (b12 : Bool) (n88 : Int) (n89 : Int) (n90 : Int) (n91 : Int) (xs73 : List Int) (xs74 : List Int) (xs75 : List Int) (xs76 : List Int) : Option Bool :=
  if b12 = true then
  some false
  else
  (s12_v2 n88 n89 n90 n91 xs73 xs74 xs75 xs76).bind fun y40 =>
  (some y40.1.1).bind fun n208 =>
  (some y40.1.2).bind fun n209 =>
  (some y40.2.2.1.1).bind fun n210 =>
  (some y40.2.2.2.1.1).bind fun n211 =>
  (some y40.2.2.2.2.1.1).bind fun n212 =>
  (some y40.2.2.2.2.2.1.1).bind fun n213 =>
  (some y40.2.2.2.2.2.2.1).bind fun xs157 =>
  (some y40.2.2.2.2.2.2.2.1).bind fun xs158 =>
  (some y40.2.2.2.2.2.2.2.2.1).bind fun xs159 =>
  (some y40.2.2.2.2.2.2.2.2.2).bind fun xs160 =>
  (s14_v2 2 n210 n211 n212 n213 xs157 xs158 xs159 xs160).bind fun y41 =>
  (some y41.1.1).bind fun n214 =>
  (some y41.1.2).bind fun n215 =>
  (some y41.2.2.1.1).bind fun n216 =>
  (some y41.2.2.2.1.1).bind fun n217 =>
  (some y41.2.2.2.2.1.1).bind fun n218 =>
  (some y41.2.2.2.2.2.1.1).bind fun n219 =>
  (some y41.2.2.2.2.2.2.1).bind fun xs161 =>
  (some y41.2.2.2.2.2.2.2.1).bind fun xs162 =>
  (some y41.2.2.2.2.2.2.2.2.1).bind fun xs163 =>
  (some y41.2.2.2.2.2.2.2.2.2).bind fun xs164 =>
  if n208 ≠ 2 then
  j5 true n216 n217 n218 n219 xs161 xs162 xs163 xs164
  else
  if n214 ≠ 5 then
  j5 true n216 n217 n218 n219 xs161 xs162 xs163 xs164
  else
  if n209 ≠ 0 then
  j5 true n216 n217 n218 n219 xs161 xs162 xs163 xs164
  else
  if n215 ≠ 0 then
  j5 true n216 n217 n218 n219 xs161 xs162 xs163 xs164
  else
  (s15 4 n216 n217 n218 n219 xs161 xs162 xs163 xs164).bind fun y51 =>
  (some y51.1).bind fun n252 =>
  (some y51.2.2.1.1).bind fun n253 =>
  (some y51.2.2.2.1.1).bind fun n254 =>
  (some y51.2.2.2.2.1.1).bind fun n255 =>
  (some y51.2.2.2.2.2.1.1).bind fun n256 =>
  (some y51.2.2.2.2.2.2.1).bind fun xs191 =>
  (some y51.2.2.2.2.2.2.2.1).bind fun xs192 =>
  (some y51.2.2.2.2.2.2.2.2.1).bind fun xs193 =>
  (some y51.2.2.2.2.2.2.2.2.2).bind fun xs194 =>
  if n252 ≠ 0 then
  j5 true n253 n254 n255 n256 xs191 xs192 xs193 xs194
  else
  (s15 2 n253 n254 n255 n256 xs191 xs192 xs193 xs194).bind fun y52 =>
  (some y52.1).bind fun n257 =>
  (some y52.2.2.1.1).bind fun n258 =>
  (some y52.2.2.2.1.1).bind fun n259 =>
  (some y52.2.2.2.2.1.1).bind fun n260 =>
  (some y52.2.2.2.2.2.1.1).bind fun n261 =>
  (some y52.2.2.2.2.2.2.1).bind fun xs195 =>
  (some y52.2.2.2.2.2.2.2.1).bind fun xs196 =>
  (some y52.2.2.2.2.2.2.2.2.1).bind fun xs197 =>
  (some y52.2.2.2.2.2.2.2.2.2).bind fun xs198 =>
  j5 (decide (n257 ≠ 0)) n258 n259 n260 n261 xs195 xs196 xs197 xs198
def s9_j4 (b12 : Bool) (n88 : Int) (n89 : Int) (n90 : Int) (n91 : Int) (xs73 : List Int) (xs74 : List Int) (xs75 : List Int) (xs76 : List Int) : Option Bool := s9_j4F s9_j5 b12 n88 n89 n90 n91 xs73 xs74 xs75 xs76
def s9_j3F (j4 : Bool → Int → Int → Int → Int → (List Int) → (List Int) → (List Int) → (List Int) → Option Bool) (n82 : Int) (n83 : Int) (n84 : Int) (n85 : Int) (n86 : Int) (xs69 : List Int) (xs70 : List Int) (xs71 : List Int) (xs72 : List Int) : Option Bool :=
  if n82 ≠ 0 then
  j4 true n83 n84 n85 n86 xs69 xs70 xs71 xs72
  else
  j4 false n83 n84 n85 n86 xs69 xs70 xs71 xs72
def s9_j3 (n82 : Int) (n83 : Int) (n84 : Int) (n85 : Int) (n86 : Int) (xs69 : List Int) (xs70 : List Int) (xs71 : List Int) (xs72 : List Int) : Option Bool := s9_j3F s9_j4 n82 n83 n84 n85 n86 xs69 xs70 xs71 xs72
def s9F (j1 : Int → Option Bool) (j3 : Int → Int → Int → Int → Int → (List Int) → (List Int) → (List Int) → (List Int) → Option Bool) : Option Bool :=
  (s10 8 ([0, 1, 4] : List Int)).bind fun y19 =>
  match y19 with
  | .inl y20 =>
  j1 1
  | .inr y21 =>
  (some y21.2.2.1.1).bind fun n77 =>
  (some y21.2.2.2.1.1).bind fun n78 =>
  (some y21.2.2.2.2.1.1).bind fun n79 =>
  (some y21.2.2.2.2.2.1.1).bind fun n80 =>
  (some y21.2.2.2.2.2.2.1).bind fun xs65 =>
  (some y21.2.2.2.2.2.2.2.1).bind fun xs66 =>
  (some y21.2.2.2.2.2.2.2.2.1).bind fun xs67 =>
  (some y21.2.2.2.2.2.2.2.2.2).bind fun xs68 =>
  j3 0 n77 n78 n79 n80 xs65 xs66 xs67 xs68
def s9 : Option Bool := s9F s9_j1 s9_j3
/-! ### slices.Clone[[]int,int] -/
def s11_v2F (xs322 : List Int) : Option (Unit × List Int) :=
  (appI ([] : List Int) xs322 8).bind fun xs323 =>
  some ((), xs323)
def s11_v2 (xs322 : List Int) : Option (Unit × List Int) := s11_v2F xs322
/-! ### slices.Clone[[]int,int] -/
def s11_v3F (xs324 : List Int) : Option (Unit × List Int) :=
  some ((), [])
def s11_v3 (xs324 : List Int) : Option (Unit × List Int) := s11_v3F xs324
/-! ### slices.Clone[[]int,int] -/
def s11 (xs : List Int) : Option (Unit × List Int) := if xs.length = 0 then s11_v3 [] else s11_v2 xs
/-! ### incipit/incipitref08.may -/
def s53F (n405 : Int) : Option Bool :=
  if n405 ≥ 8 then
  some (decide (n405 ≤ 2048))
  else
  some false
def s53 (n405 : Int) : Option Bool := s53F n405
/-! ### incipit/incipitref08.List -/
def s22_j1F (r_l1 : Int → (List Int) → Int → Option Bool) (n409 : Int) (xs342 : List Int) (n410 : Int) (b29 : Bool) : Option Bool :=
  if b29 = true then
  some false
  else
  r_l1 n409 xs342 (IntKind.i64.wrap (n410 + 1))
def s22_j1 (r_l1 : Int → (List Int) → Int → Option Bool) (n409 : Int) (xs342 : List Int) (n410 : Int) (b29 : Bool) : Option Bool := s22_j1F r_l1 n409 xs342 n410 b29
def s22_l1B (j1 : Int → (List Int) → Int → Bool → Option Bool) (n407 : Int) (xs341 : List Int) (n408 : Int) : Option Bool :=
  if n408 < (xs341.length : Int) then
  (getI xs341 n408).bind fun x13 =>
  if x13 < 0 then
  j1 n407 xs341 n408 true
  else
  (getI xs341 n408).bind fun x14 =>
  if x14 ≥ n407 then
  j1 n407 xs341 n408 true
  else
  if n408 > 0 then
  (getI xs341 (IntKind.i64.wrap (n408 - 1))).bind fun x15 =>
  (getI xs341 n408).bind fun x16 =>
  j1 n407 xs341 n408 (decide (x15 ≥ x16))
  else
  j1 n407 xs341 n408 false
  else
  some true
def s22_l1 (n_ : Nat) (n407 : Int) (xs341 : List Int) (n408 : Int) : Option Bool := iterL (fun (r_ : (Int × (List Int) × Int) → Option Bool) (x : (Int × (List Int) × Int)) => s22_l1B (s22_j1 (fun n407 xs341 n408 => r_ (n407, xs341, n408))) x.1 x.2.1 x.2.2) n_ (n407, xs341, n408)
def s22F (l1 : Int → (List Int) → Int → Option Bool) (n406 : Int) (xs340 : List Int) : Option Bool :=
  l1 n406 xs340 0
def s22 (n406 : Int) (xs340 : List Int) : Option Bool := s22F (s22_l1 FUEL) n406 xs340
/-! ### incipit/incipitref08.Open -/
def s34_l1B (r_l1 : (List Int) → Int → (List Int) → Option ((Unit × Unit) ⊕ ((Unit × Unit) × (Unit × List Int)))) (xs345 : List Int) (n412 : Int) (xs346 : List Int) : Option ((Unit × Unit) ⊕ ((Unit × Unit) × (Unit × List Int))) :=
  if n412 < (xs345.length : Int) then
  (getI xs345 n412).bind fun x17 =>
  if 0 ≤ x17 ∧ x17 < (xs346.length : Int) then
  (setI xs346 x17 1).bind fun xs347 =>
  r_l1 xs345 (IntKind.i64.wrap (n412 + 1)) xs347
  else none
  else
  some (.inr (((), ()), ((), xs346)))
def s34_l1 (n_ : Nat) (xs345 : List Int) (n412 : Int) (xs346 : List Int) : Option ((Unit × Unit) ⊕ ((Unit × Unit) × (Unit × List Int))) := iterL (fun (r_ : (((List Int) × Unit × Int) × (Unit × (List Int))) → Option ((Unit × Unit) ⊕ ((Unit × Unit) × (Unit × List Int)))) (x : (((List Int) × Unit × Int) × (Unit × (List Int)))) => s34_l1B (fun xs345 n412 xs346 => r_ ((xs345, (), n412), ((), xs346))) x.1.1 x.1.2.2 x.2.2) n_ ((xs345, (), n412), ((), xs346))
def s34_j1F (l1 : (List Int) → Int → (List Int) → Option ((Unit × Unit) ⊕ ((Unit × Unit) × (Unit × List Int)))) (n411 : Int) (xs343 : List Int) (b31 : Bool) : Option ((Unit × Unit) ⊕ ((Unit × Unit) × (Unit × List Int))) :=
  if b31 = true then
  some (.inl ((), ()))
  else
  (repI n411 (0 : Int) 8).bind fun xs344 =>
  l1 xs343 0 xs344
def s34_j1 (n411 : Int) (xs343 : List Int) (b31 : Bool) : Option ((Unit × Unit) ⊕ ((Unit × Unit) × (Unit × List Int))) := s34_j1F (s34_l1 FUEL) n411 xs343 b31
def s34F (j1 : Int → (List Int) → Bool → Option ((Unit × Unit) ⊕ ((Unit × Unit) × (Unit × List Int)))) (n404 : Int) (xs339 : List Int) : Option ((Unit × Unit) ⊕ ((Unit × Unit) × (Unit × List Int))) :=
  (s53 n404).bind fun b28 =>
  if ¬ b28 = true then
  j1 n404 xs339 true
  else
  (s22 n404 xs339).bind fun b30 =>
  j1 n404 xs339 (decide (¬ b30 = true))
def s34 (n404 : Int) (xs339 : List Int) : Option ((Unit × Unit) ⊕ ((Unit × Unit) × (Unit × List Int))) := s34F s34_j1 n404 xs339
/-! ### (*incipit/incipitref08.Map).AllocRun -/
def s58_l1B (n450 : Int) (n451 : Int) : Option (Unit × Unit) :=
  none
def s58_l1 (n_ : Nat) (n450 : Int) (n451 : Int) : Option (Unit × Unit) := iterL (fun (r_ : (Unit × Int × Int) → Option (Unit × Unit)) (x : (Unit × Int × Int)) => s58_l1B x.2.1 x.2.2) n_ ((), n450, n451)
def s58F (l1 : Int → Int → Option (Unit × Unit)) (n449 : Int) : Option (Unit × Unit) :=
  if n449 < 1 then
  some ((), ())
  else
  l1 n449 0
def s58 (n449 : Int) : Option (Unit × Unit) := s58F (s58_l1 FUEL) n449
/-! ### (*incipit/incipitref08.Map).Alloc -/
def s57F : Option (Unit × Unit) :=
  (s58 1).bind fun y82 =>
  some ((), ())
def s57 : Option (Unit × Unit) := s57F
/-! ### (*incipit/incipitref08.Map).Has -/
def s63F (n464 : Int) : Option Unit :=
  if n464 ≥ 0 then
  none
  else
  some ()
def s63 (n464 : Int) : Option Unit := s63F n464
/-! ### (*incipit/incipitref08.Map).Free -/
def s59F (n463 : Int) : Option Unit :=
  (s63 n463).bind fun y87 =>
  some ()
def s59 (n463 : Int) : Option Unit := s59F n463
/-! ### (*incipit/incipitref08.Map).Commit -/
def s60F : Option Empty :=
  none
def s60 : Option Empty := s60F
/-! ### (*incipit/incipitref08.Map).Abort -/
def s61F : Option Empty :=
  none
def s61 : Option Empty := s61F
/-! ### incipit/incipitlaw08.does -/
def s35F (r1 : T_incipitlaw08_Op) (n439 : Int) (n440 : Int) (n441 : Int) (n442 : Int) (xs378 : List Int) (xs379 : List Int) (xs380 : List Int) (xs381 : List Int) : Option (Bool × ((Unit × Unit × Unit × Unit) × (Int × Unit) × (Int × Unit) × (Int × Unit) × (Int × Unit) × List Int × List Int × List Int × List Int)) :=
  if r1.Do = 0 then
  (s12_v2 n439 n440 n441 n442 xs378 xs379 xs380 xs381).bind fun y81 =>
  (some y81.1.1).bind fun n443 =>
  (some y81.1.2).bind fun n444 =>
  (some y81.2.2.1.1).bind fun n445 =>
  (some y81.2.2.2.1.1).bind fun n446 =>
  (some y81.2.2.2.2.1.1).bind fun n447 =>
  (some y81.2.2.2.2.2.1.1).bind fun n448 =>
  (some y81.2.2.2.2.2.2.1).bind fun xs382 =>
  (some y81.2.2.2.2.2.2.2.1).bind fun xs383 =>
  (some y81.2.2.2.2.2.2.2.2.1).bind fun xs384 =>
  (some y81.2.2.2.2.2.2.2.2.2).bind fun xs385 =>
  (s57).bind fun y83 =>
  if n443 = 0 then
  some (decide (n444 = 1), (((), (), (), ()), (n445, ()), (n446, ()), (n447, ()), (n448, ()), xs382, xs383, xs384, xs385))
  else
  some (false, (((), (), (), ()), (n445, ()), (n446, ()), (n447, ()), (n448, ()), xs382, xs383, xs384, xs385))
  else
  if r1.Do = 1 then
  (s14_v2 r1.N n439 n440 n441 n442 xs378 xs379 xs380 xs381).bind fun y84 =>
  (some y84.1.1).bind fun n452 =>
  (some y84.1.2).bind fun n453 =>
  (some y84.2.2.1.1).bind fun n454 =>
  (some y84.2.2.2.1.1).bind fun n455 =>
  (some y84.2.2.2.2.1.1).bind fun n456 =>
  (some y84.2.2.2.2.2.1.1).bind fun n457 =>
  (some y84.2.2.2.2.2.2.1).bind fun xs386 =>
  (some y84.2.2.2.2.2.2.2.1).bind fun xs387 =>
  (some y84.2.2.2.2.2.2.2.2.1).bind fun xs388 =>
  (some y84.2.2.2.2.2.2.2.2.2).bind fun xs389 =>
  (s58 r1.N).bind fun y85 =>
  if n452 = 0 then
  some (decide (n453 = 1), (((), (), (), ()), (n454, ()), (n455, ()), (n456, ()), (n457, ()), xs386, xs387, xs388, xs389))
  else
  some (false, (((), (), (), ()), (n454, ()), (n455, ()), (n456, ()), (n457, ()), xs386, xs387, xs388, xs389))
  else
  if r1.Do = 2 then
  (s15 r1.N n439 n440 n441 n442 xs378 xs379 xs380 xs381).bind fun y86 =>
  (some y86.1).bind fun n458 =>
  (some y86.2.2.1.1).bind fun n459 =>
  (some y86.2.2.2.1.1).bind fun n460 =>
  (some y86.2.2.2.2.1.1).bind fun n461 =>
  (some y86.2.2.2.2.2.1.1).bind fun n462 =>
  (some y86.2.2.2.2.2.2.1).bind fun xs390 =>
  (some y86.2.2.2.2.2.2.2.1).bind fun xs391 =>
  (some y86.2.2.2.2.2.2.2.2.1).bind fun xs392 =>
  (some y86.2.2.2.2.2.2.2.2.2).bind fun xs393 =>
  (s59 r1.N).bind fun y88 =>
  some (decide (n458 = 4), (((), (), (), ()), (n459, ()), (n460, ()), (n461, ()), (n462, ()), xs390, xs391, xs392, xs393))
  else
  if r1.Do = 3 then
  none
  else
  if r1.Do = 4 then
  none
  else
  some (true, (((), (), (), ()), (n439, ()), (n440, ()), (n441, ()), (n442, ()), xs378, xs379, xs380, xs381))
def s35 (r1 : T_incipitlaw08_Op) (n439 : Int) (n440 : Int) (n441 : Int) (n442 : Int) (xs378 : List Int) (xs379 : List Int) (xs380 : List Int) (xs381 : List Int) : Option (Bool × ((Unit × Unit × Unit × Unit) × (Int × Unit) × (Int × Unit) × (Int × Unit) × (Int × Unit) × List Int × List Int × List Int × List Int)) := s35F r1 n439 n440 n441 n442 xs378 xs379 xs380 xs381
/-! ### incipit/incipitlaw08.same -/
def s36F (n471 : Int) (n472 : Int) (n473 : Int) (n474 : Int) (xs398 : List Int) (xs399 : List Int) (xs400 : List Int) (xs401 : List Int) : Option Empty :=
  none
def s36 (n471 : Int) (n472 : Int) (n473 : Int) (n474 : Int) (xs398 : List Int) (xs399 : List Int) (xs400 : List Int) (xs401 : List Int) : Option Empty := s36F n471 n472 n473 n474 xs398 xs399 xs400 xs401
/-! ### (*incipit/incipitref08.Map).AllocRun -/
def s58_v2_j2F (r_l2 : Int → Int → Bool → Int → (List Int) → Option ((Int × Int) × (Unit × List Int))) (n508 : Int) (n509 : Int) (b39 : Bool) (n510 : Int) (xs429 : List Int) : Option ((Int × Int) × (Unit × List Int)) :=
  r_l2 n508 n509 b39 (IntKind.i64.wrap (n510 + 1)) xs429
def s58_v2_j2 (r_l2 : Int → Int → Bool → Int → (List Int) → Option ((Int × Int) × (Unit × List Int))) (n508 : Int) (n509 : Int) (b39 : Bool) (n510 : Int) (xs429 : List Int) : Option ((Int × Int) × (Unit × List Int)) := s58_v2_j2F r_l2 n508 n509 b39 n510 xs429
def s58_v2_l3B (r_l3 : Int → Int → Int → (List Int) → Option ((Int × Int) × (Unit × List Int))) (n511 : Int) (n512 : Int) (n513 : Int) (xs430 : List Int) : Option ((Int × Int) × (Unit × List Int)) :=
  if n513 < (IntKind.i64.wrap (n512 + n511)) then
  if 0 ≤ n513 ∧ n513 < (xs430.length : Int) then
  (setI xs430 n513 2).bind fun xs431 =>
  r_l3 n511 n512 (IntKind.i64.wrap (n513 + 1)) xs431
  else none
  else
  some ((n512, 0), ((), xs430))
def s58_v2_l3 (n_ : Nat) (n511 : Int) (n512 : Int) (n513 : Int) (xs430 : List Int) : Option ((Int × Int) × (Unit × List Int)) := iterL (fun (r_ : ((Unit × Int × Int × Int) × (Unit × (List Int))) → Option ((Int × Int) × (Unit × List Int))) (x : ((Unit × Int × Int × Int) × (Unit × (List Int)))) => s58_v2_l3B (fun n511 n512 n513 xs430 => r_ (((), n511, n512, n513), ((), xs430))) x.1.2.1 x.1.2.2.1 x.1.2.2.2 x.2.2) n_ (((), n511, n512, n513), ((), xs430))
def s58_v2_l2B (j2 : Int → Int → Bool → Int → (List Int) → Option ((Int × Int) × (Unit × List Int))) (l3 : Int → Int → Int → (List Int) → Option ((Int × Int) × (Unit × List Int))) (r_l1 : Int → Int → (List Int) → Option ((Int × Int) × (Unit × List Int))) (n505 : Int) (n506 : Int) (b38 : Bool) (n507 : Int) (xs428 : List Int) : Option ((Int × Int) × (Unit × List Int)) :=
  if n507 < (IntKind.i64.wrap (n506 + n505)) then
  if b38 = true then
  if 0 ≤ n507 ∧ n507 < (xs428.length : Int) then
  (getI xs428 n507).bind fun x20 =>
  j2 n505 n506 (decide (x20 = 0)) n507 xs428
  else none
  else
  j2 n505 n506 false n507 xs428
  else
  if b38 = true then
  l3 n505 n506 n506 xs428
  else
  r_l1 n505 (IntKind.i64.wrap (n506 + 1)) xs428
def s58_v2_l2 (r_l1 : Int → Int → (List Int) → Option ((Int × Int) × (Unit × List Int))) (n_ : Nat) (n505 : Int) (n506 : Int) (b38 : Bool) (n507 : Int) (xs428 : List Int) : Option ((Int × Int) × (Unit × List Int)) := iterL (fun (r_ : ((Unit × Int × Int × Bool × Int) × (Unit × (List Int))) → Option ((Int × Int) × (Unit × List Int))) (x : ((Unit × Int × Int × Bool × Int) × (Unit × (List Int)))) => s58_v2_l2B (s58_v2_j2 (fun n505 n506 b38 n507 xs428 => r_ (((), n505, n506, b38, n507), ((), xs428)))) (s58_v2_l3 FUEL) r_l1 x.1.2.1 x.1.2.2.1 x.1.2.2.2.1 x.1.2.2.2.2 x.2.2) n_ (((), n505, n506, b38, n507), ((), xs428))
def s58_v2_j1F (l2 : Int → Int → Bool → Int → (List Int) → Option ((Int × Int) × (Unit × List Int))) (n503 : Int) (n504 : Int) (b37 : Bool) (xs427 : List Int) : Option ((Int × Int) × (Unit × List Int)) :=
  if b37 = true then
  l2 n503 n504 true n504 xs427
  else
  some ((0, 6), ((), xs427))
def s58_v2_j1 (r_l1 : Int → Int → (List Int) → Option ((Int × Int) × (Unit × List Int))) (n503 : Int) (n504 : Int) (b37 : Bool) (xs427 : List Int) : Option ((Int × Int) × (Unit × List Int)) := s58_v2_j1F (s58_v2_l2 r_l1 FUEL) n503 n504 b37 xs427
def s58_v2_l1B (j1 : Int → Int → Bool → (List Int) → Option ((Int × Int) × (Unit × List Int))) (n501 : Int) (n502 : Int) (xs426 : List Int) : Option ((Int × Int) × (Unit × List Int)) :=
  if n502 < (xs426.length : Int) then
  j1 n501 n502 (decide (n501 ≤ (IntKind.i64.wrap ((xs426.length : Int) - n502)))) xs426
  else
  j1 n501 n502 false xs426
def s58_v2_l1 (n_ : Nat) (n501 : Int) (n502 : Int) (xs426 : List Int) : Option ((Int × Int) × (Unit × List Int)) := iterL (fun (r_ : ((Unit × Int × Int) × (Unit × (List Int))) → Option ((Int × Int) × (Unit × List Int))) (x : ((Unit × Int × Int) × (Unit × (List Int)))) => s58_v2_l1B (s58_v2_j1 (fun n501 n502 xs426 => r_ (((), n501, n502), ((), xs426)))) x.1.2.1 x.1.2.2 x.2.2) n_ (((), n501, n502), ((), xs426))
def s58_v2F (l1 : Int → Int → (List Int) → Option ((Int × Int) × (Unit × List Int))) (n500 : Int) (xs425 : List Int) : Option ((Int × Int) × (Unit × List Int)) :=
  if n500 < 1 then
  some ((0, 1), ((), xs425))
  else
  l1 n500 0 xs425
def s58_v2 (n500 : Int) (xs425 : List Int) : Option ((Int × Int) × (Unit × List Int)) := s58_v2F (s58_v2_l1 FUEL) n500 xs425
/-! ### (*incipit/incipitref08.Map).Alloc -/
def s57_v2F (xs424 : List Int) : Option ((Int × Int) × (Unit × List Int)) :=
  (s58_v2 1 xs424).bind fun y91 =>
  (some y91.1.1).bind fun n514 =>
  (some y91.1.2).bind fun n515 =>
  (some y91.2.2).bind fun xs432 =>
  some ((n514, n515), ((), xs432))
def s57_v2 (xs424 : List Int) : Option ((Int × Int) × (Unit × List Int)) := s57_v2F xs424
/-! ### (*incipit/incipitref08.Map).Has -/
def s63_v2F (n532 : Int) (xs444 : List Int) : Option (Bool × (Unit × List Int)) :=
  if n532 ≥ 0 then
  if n532 < (xs444.length : Int) then
  if 0 ≤ n532 ∧ n532 < (xs444.length : Int) then
  (getI xs444 n532).bind fun x21 =>
  if x21 = 1 then
  some (true, ((), xs444))
  else
  if 0 ≤ n532 ∧ n532 < (xs444.length : Int) then
  (getI xs444 n532).bind fun x22 =>
  some (decide (x22 = 2), ((), xs444))
  else none
  else none
  else
  some (false, ((), xs444))
  else
  some (false, ((), xs444))
def s63_v2 (n532 : Int) (xs444 : List Int) : Option (Bool × (Unit × List Int)) := s63_v2F n532 xs444
/-! ### (*incipit/incipitref08.Map).Free -/
def s59_v2_j1F (xs448 : List Int) : Option (Int × (Unit × List Int)) :=
  some (0, ((), xs448))
def s59_v2_j1 (xs448 : List Int) : Option (Int × (Unit × List Int)) := s59_v2_j1F xs448
def s59_v2F (j1 : (List Int) → Option (Int × (Unit × List Int))) (n531 : Int) (xs443 : List Int) : Option (Int × (Unit × List Int)) :=
  (s63_v2 n531 xs443).bind fun y96 =>
  (some y96.1).bind fun b40 =>
  (some y96.2.2).bind fun xs445 =>
  if ¬ b40 = true then
  some (4, ((), xs445))
  else
  if 0 ≤ n531 ∧ n531 < (xs445.length : Int) then
  (getI xs445 n531).bind fun x23 =>
  if x23 = 2 then
  if 0 ≤ n531 ∧ n531 < (xs445.length : Int) then
  (setI xs445 n531 0).bind fun xs446 =>
  j1 xs446
  else none
  else
  if 0 ≤ n531 ∧ n531 < (xs445.length : Int) then
  (setI xs445 n531 3).bind fun xs447 =>
  j1 xs447
  else none
  else none
def s59_v2 (n531 : Int) (xs443 : List Int) : Option (Int × (Unit × List Int)) := s59_v2F s59_v2_j1 n531 xs443
/-! ### (*incipit/incipitref08.Map).Commit -/
def s60_v2_j1F (r_l1 : Int → (List Int) → Option (Unit × (Unit × List Int))) (n535 : Int) (xs454 : List Int) : Option (Unit × (Unit × List Int)) :=
  r_l1 (IntKind.i64.wrap (n535 + 1)) xs454
def s60_v2_j1 (r_l1 : Int → (List Int) → Option (Unit × (Unit × List Int))) (n535 : Int) (xs454 : List Int) : Option (Unit × (Unit × List Int)) := s60_v2_j1F r_l1 n535 xs454
def s60_v2_l1B (j1 : Int → (List Int) → Option (Unit × (Unit × List Int))) (n534 : Int) (xs451 : List Int) : Option (Unit × (Unit × List Int)) :=
  if n534 < (xs451.length : Int) then
  if 0 ≤ n534 ∧ n534 < (xs451.length : Int) then
  (getI xs451 n534).bind fun x24 =>
  if x24 = 2 then
  if 0 ≤ n534 ∧ n534 < (xs451.length : Int) then
  (setI xs451 n534 1).bind fun xs452 =>
  j1 n534 xs452
  else none
  else
  if x24 = 3 then
  if 0 ≤ n534 ∧ n534 < (xs451.length : Int) then
  (setI xs451 n534 0).bind fun xs453 =>
  j1 n534 xs453
  else none
  else
  j1 n534 xs451
  else none
  else
  some ((), ((), xs451))
def s60_v2_l1 (n_ : Nat) (n534 : Int) (xs451 : List Int) : Option (Unit × (Unit × List Int)) := iterL (fun (r_ : ((Unit × Int) × (Unit × (List Int))) → Option (Unit × (Unit × List Int))) (x : ((Unit × Int) × (Unit × (List Int)))) => s60_v2_l1B (s60_v2_j1 (fun n534 xs451 => r_ (((), n534), ((), xs451)))) x.1.2 x.2.2) n_ (((), n534), ((), xs451))
def s60_v2F (l1 : Int → (List Int) → Option (Unit × (Unit × List Int))) (xs450 : List Int) : Option (Unit × (Unit × List Int)) :=
  l1 0 xs450
def s60_v2 (xs450 : List Int) : Option (Unit × (Unit × List Int)) := s60_v2F (s60_v2_l1 FUEL) xs450
/-! ### (*incipit/incipitref08.Map).Abort -/
def s61_v2_j1F (r_l1 : Int → (List Int) → Option (Unit × (Unit × List Int))) (n544 : Int) (xs467 : List Int) : Option (Unit × (Unit × List Int)) :=
  r_l1 (IntKind.i64.wrap (n544 + 1)) xs467
def s61_v2_j1 (r_l1 : Int → (List Int) → Option (Unit × (Unit × List Int))) (n544 : Int) (xs467 : List Int) : Option (Unit × (Unit × List Int)) := s61_v2_j1F r_l1 n544 xs467
def s61_v2_l1B (j1 : Int → (List Int) → Option (Unit × (Unit × List Int))) (n543 : Int) (xs464 : List Int) : Option (Unit × (Unit × List Int)) :=
  if n543 < (xs464.length : Int) then
  if 0 ≤ n543 ∧ n543 < (xs464.length : Int) then
  (getI xs464 n543).bind fun x25 =>
  if x25 = 2 then
  if 0 ≤ n543 ∧ n543 < (xs464.length : Int) then
  (setI xs464 n543 0).bind fun xs465 =>
  j1 n543 xs465
  else none
  else
  if x25 = 3 then
  if 0 ≤ n543 ∧ n543 < (xs464.length : Int) then
  (setI xs464 n543 1).bind fun xs466 =>
  j1 n543 xs466
  else none
  else
  j1 n543 xs464
  else none
  else
  some ((), ((), xs464))
def s61_v2_l1 (n_ : Nat) (n543 : Int) (xs464 : List Int) : Option (Unit × (Unit × List Int)) := iterL (fun (r_ : ((Unit × Int) × (Unit × (List Int))) → Option (Unit × (Unit × List Int))) (x : ((Unit × Int) × (Unit × (List Int)))) => s61_v2_l1B (s61_v2_j1 (fun n543 xs464 => r_ (((), n543), ((), xs464)))) x.1.2 x.2.2) n_ (((), n543), ((), xs464))
def s61_v2F (l1 : Int → (List Int) → Option (Unit × (Unit × List Int))) (xs463 : List Int) : Option (Unit × (Unit × List Int)) :=
  l1 0 xs463
def s61_v2 (xs463 : List Int) : Option (Unit × (Unit × List Int)) := s61_v2F (s61_v2_l1 FUEL) xs463
/-! ### (*incipit/freemap.Map).settle -/
def s43_v3F (n553 : Int) (n554 : Int) (n555 : Int) (xs477 : List Int) (xs478 : List Int) (xs479 : List Int) : Option (Unit × ((Unit × Unit × Unit × Unit) × (Int × Unit) × (Int × Unit) × (Int × Unit) × List Int × List Int × List Int × (Int × Unit) × (Int × Unit) × (Int × Unit) × List Int × List Int × List Int)) :=
  (s65_v2 n553 xs477).bind fun y102 =>
  (some y102.2.1.1).bind fun n556 =>
  (some y102.2.2.1).bind fun xs480 =>
  (some y102.2.2.2.1.1).bind fun n557 =>
  (some y102.2.2.2.2).bind fun xs481 =>
  (s68_v2 n556 n554 n555 n557 xs480 xs478 xs479 xs481).bind fun y103 =>
  (some y103.2.2.1.1).bind fun n558 =>
  (some y103.2.2.2.1.1).bind fun n559 =>
  (some y103.2.2.2.2.1.1).bind fun n560 =>
  (some y103.2.2.2.2.2.1.1).bind fun n561 =>
  (some y103.2.2.2.2.2.2.1).bind fun xs482 =>
  (some y103.2.2.2.2.2.2.2.1).bind fun xs483 =>
  (some y103.2.2.2.2.2.2.2.2.1).bind fun xs484 =>
  (some y103.2.2.2.2.2.2.2.2.2.1).bind fun xs485 =>
  (some y103.2.2.2.2.2.2.2.2.2.2.1.1).bind fun n562 =>
  (some y103.2.2.2.2.2.2.2.2.2.2.2).bind fun xs486 =>
  (s68_v2 n558 n559 n560 n561 xs482 xs483 xs484 xs485).bind fun y104 =>
  (some y104.2.2.1.1).bind fun n563 =>
  (some y104.2.2.2.1.1).bind fun n564 =>
  (some y104.2.2.2.2.1.1).bind fun n565 =>
  (some y104.2.2.2.2.2.1.1).bind fun n566 =>
  (some y104.2.2.2.2.2.2.1).bind fun xs487 =>
  (some y104.2.2.2.2.2.2.2.1).bind fun xs488 =>
  (some y104.2.2.2.2.2.2.2.2.1).bind fun xs489 =>
  (some y104.2.2.2.2.2.2.2.2.2.1).bind fun xs490 =>
  (some y104.2.2.2.2.2.2.2.2.2.2.1.1).bind fun n567 =>
  (some y104.2.2.2.2.2.2.2.2.2.2.2).bind fun xs491 =>
  some ((), (((), (), (), ()), (n563, ()), (n564, ()), (n565, ()), xs487, xs488, xs489, (n562, ()), (n567, ()), (n566, ()), xs486, xs491, xs490))
def s43_v3 (n553 : Int) (n554 : Int) (n555 : Int) (xs477 : List Int) (xs478 : List Int) (xs479 : List Int) : Option (Unit × ((Unit × Unit × Unit × Unit) × (Int × Unit) × (Int × Unit) × (Int × Unit) × List Int × List Int × List Int × (Int × Unit) × (Int × Unit) × (Int × Unit) × List Int × List Int × List Int)) := s43_v3F n553 n554 n555 xs477 xs478 xs479
/-! ### (*incipit/freemap.Map).Abort -/
def s18F (n545 : Int) (n546 : Int) (n547 : Int) (n548 : Int) (xs469 : List Int) (xs470 : List Int) (xs471 : List Int) (xs472 : List Int) : Option (Unit × ((Unit × Unit × Unit × Unit) × (Int × Unit) × (Int × Unit) × (Int × Unit) × (Int × Unit) × List Int × List Int × List Int × List Int × (Int × Unit) × (Int × Unit) × (Int × Unit) × List Int × List Int × List Int)) :=
  (s45_v2 n545 n546 n547 n548 xs469 xs470 xs471 xs472).bind fun y101 =>
  (some y101.2.2.1.1).bind fun n549 =>
  (some y101.2.2.2.1.1).bind fun n550 =>
  (some y101.2.2.2.2.1.1).bind fun n551 =>
  (some y101.2.2.2.2.2.1.1).bind fun n552 =>
  (some y101.2.2.2.2.2.2.1).bind fun xs473 =>
  (some y101.2.2.2.2.2.2.2.1).bind fun xs474 =>
  (some y101.2.2.2.2.2.2.2.2.1).bind fun xs475 =>
  (some y101.2.2.2.2.2.2.2.2.2).bind fun xs476 =>
  (s43_v3 n552 n550 n551 xs476 xs474 xs475).bind fun y105 =>
  (some y105.2.2.1.1).bind fun n568 =>
  (some y105.2.2.2.1.1).bind fun n569 =>
  (some y105.2.2.2.2.1.1).bind fun n570 =>
  (some y105.2.2.2.2.2.1).bind fun xs492 =>
  (some y105.2.2.2.2.2.2.1).bind fun xs493 =>
  (some y105.2.2.2.2.2.2.2.1).bind fun xs494 =>
  (some y105.2.2.2.2.2.2.2.2.1.1).bind fun n571 =>
  (some y105.2.2.2.2.2.2.2.2.2.1.1).bind fun n572 =>
  (some y105.2.2.2.2.2.2.2.2.2.2.1.1).bind fun n573 =>
  (some y105.2.2.2.2.2.2.2.2.2.2.2.1).bind fun xs495 =>
  (some y105.2.2.2.2.2.2.2.2.2.2.2.2.1).bind fun xs496 =>
  (some y105.2.2.2.2.2.2.2.2.2.2.2.2.2).bind fun xs497 =>
  some ((), (((), (), (), ()), (n549, ()), (n569, ()), (n570, ()), (n568, ()), xs473, xs493, xs494, xs492, (n571, ()), (n572, ()), (n573, ()), xs495, xs496, xs497))
def s18 (n545 : Int) (n546 : Int) (n547 : Int) (n548 : Int) (xs469 : List Int) (xs470 : List Int) (xs471 : List Int) (xs472 : List Int) : Option (Unit × ((Unit × Unit × Unit × Unit) × (Int × Unit) × (Int × Unit) × (Int × Unit) × (Int × Unit) × List Int × List Int × List Int × List Int × (Int × Unit) × (Int × Unit) × (Int × Unit) × List Int × List Int × List Int)) := s18F n545 n546 n547 n548 xs469 xs470 xs471 xs472
/-! ### incipit/incipitlaw08.does -/
def s35_v2F (r3 : T_incipitlaw08_Op) (n581 : Int) (n582 : Int) (n583 : Int) (n584 : Int) (xs505 : List Int) (xs506 : List Int) (xs507 : List Int) (xs508 : List Int) (xs509 : List Int) : Option ((Bool × ((Unit × Unit × Unit × Unit) × Unit × (Int × Unit) × (Int × Unit) × (Int × Unit) × (Int × Unit) × List Int × List Int × List Int × List Int × List Int)) ⊕ (Bool × ((Unit × Unit × Unit × Unit) × Unit × (Int × Unit) × (Int × Unit) × (Int × Unit) × (Int × Unit) × List Int × List Int × List Int × List Int × List Int × (Int × Unit) × (Int × Unit) × (Int × Unit) × List Int × List Int × List Int)) ⊕ (Bool × ((Unit × Unit × Unit × Unit) × Unit × (Int × Unit) × (Int × Unit) × (Int × Unit) × (Int × Unit) × List Int × List Int × List Int × List Int × List Int × (Int × Unit) × (Int × Unit) × (Int × Unit) × List Int × List Int × List Int))) :=
  if r3.Do = 0 then
  (s12_v2 n581 n582 n583 n584 xs506 xs507 xs508 xs509).bind fun y107 =>
  (some y107.1.1).bind fun n585 =>
  (some y107.1.2).bind fun n586 =>
  (some y107.2.2.1.1).bind fun n587 =>
  (some y107.2.2.2.1.1).bind fun n588 =>
  (some y107.2.2.2.2.1.1).bind fun n589 =>
  (some y107.2.2.2.2.2.1.1).bind fun n590 =>
  (some y107.2.2.2.2.2.2.1).bind fun xs510 =>
  (some y107.2.2.2.2.2.2.2.1).bind fun xs511 =>
  (some y107.2.2.2.2.2.2.2.2.1).bind fun xs512 =>
  (some y107.2.2.2.2.2.2.2.2.2).bind fun xs513 =>
  (s57_v2 xs505).bind fun y108 =>
  (some y108.1.1).bind fun n591 =>
  (some y108.1.2).bind fun n592 =>
  (some y108.2.2).bind fun xs514 =>
  if n585 = n591 then
  some (.inl (decide (n586 = n592), (((), (), (), ()), (), (n587, ()), (n588, ()), (n589, ()), (n590, ()), xs514, xs510, xs511, xs512, xs513)))
  else
  some (.inl (false, (((), (), (), ()), (), (n587, ()), (n588, ()), (n589, ()), (n590, ()), xs514, xs510, xs511, xs512, xs513)))
  else
  if r3.Do = 1 then
  (s14_v2 r3.N n581 n582 n583 n584 xs506 xs507 xs508 xs509).bind fun y109 =>
  (some y109.1.1).bind fun n593 =>
  (some y109.1.2).bind fun n594 =>
  (some y109.2.2.1.1).bind fun n595 =>
  (some y109.2.2.2.1.1).bind fun n596 =>
  (some y109.2.2.2.2.1.1).bind fun n597 =>
  (some y109.2.2.2.2.2.1.1).bind fun n598 =>
  (some y109.2.2.2.2.2.2.1).bind fun xs515 =>
  (some y109.2.2.2.2.2.2.2.1).bind fun xs516 =>
  (some y109.2.2.2.2.2.2.2.2.1).bind fun xs517 =>
  (some y109.2.2.2.2.2.2.2.2.2).bind fun xs518 =>
  (s58_v2 r3.N xs505).bind fun y110 =>
  (some y110.1.1).bind fun n599 =>
  (some y110.1.2).bind fun n600 =>
  (some y110.2.2).bind fun xs519 =>
  if n593 = n599 then
  some (.inl (decide (n594 = n600), (((), (), (), ()), (), (n595, ()), (n596, ()), (n597, ()), (n598, ()), xs519, xs515, xs516, xs517, xs518)))
  else
  some (.inl (false, (((), (), (), ()), (), (n595, ()), (n596, ()), (n597, ()), (n598, ()), xs519, xs515, xs516, xs517, xs518)))
  else
  if r3.Do = 2 then
  (s15 r3.N n581 n582 n583 n584 xs506 xs507 xs508 xs509).bind fun y111 =>
  (some y111.1).bind fun n601 =>
  (some y111.2.2.1.1).bind fun n602 =>
  (some y111.2.2.2.1.1).bind fun n603 =>
  (some y111.2.2.2.2.1.1).bind fun n604 =>
  (some y111.2.2.2.2.2.1.1).bind fun n605 =>
  (some y111.2.2.2.2.2.2.1).bind fun xs520 =>
  (some y111.2.2.2.2.2.2.2.1).bind fun xs521 =>
  (some y111.2.2.2.2.2.2.2.2.1).bind fun xs522 =>
  (some y111.2.2.2.2.2.2.2.2.2).bind fun xs523 =>
  (s59_v2 r3.N xs505).bind fun y112 =>
  (some y112.1).bind fun n606 =>
  (some y112.2.2).bind fun xs524 =>
  some (.inl (decide (n601 = n606), (((), (), (), ()), (), (n602, ()), (n603, ()), (n604, ()), (n605, ()), xs524, xs520, xs521, xs522, xs523)))
  else
  if r3.Do = 3 then
  (s60_v2 xs505).bind fun y113 =>
  (some y113.2.2).bind fun xs525 =>
  (s16 n581 n582 n583 n584 xs506 xs507 xs508 xs509).bind fun y114 =>
  (some y114.2.2.1.1).bind fun n607 =>
  (some y114.2.2.2.1.1).bind fun n608 =>
  (some y114.2.2.2.2.1.1).bind fun n609 =>
  (some y114.2.2.2.2.2.1.1).bind fun n610 =>
  (some y114.2.2.2.2.2.2.1).bind fun xs526 =>
  (some y114.2.2.2.2.2.2.2.1).bind fun xs527 =>
  (some y114.2.2.2.2.2.2.2.2.1).bind fun xs528 =>
  (some y114.2.2.2.2.2.2.2.2.2.1).bind fun xs529 =>
  (some y114.2.2.2.2.2.2.2.2.2.2.1.1).bind fun n611 =>
  (some y114.2.2.2.2.2.2.2.2.2.2.2.1.1).bind fun n612 =>
  (some y114.2.2.2.2.2.2.2.2.2.2.2.2.1.1).bind fun n613 =>
  (some y114.2.2.2.2.2.2.2.2.2.2.2.2.2.1).bind fun xs530 =>
  (some y114.2.2.2.2.2.2.2.2.2.2.2.2.2.2.1).bind fun xs531 =>
  (some y114.2.2.2.2.2.2.2.2.2.2.2.2.2.2.2).bind fun xs532 =>
  some (.inr (.inl (true, (((), (), (), ()), (), (n607, ()), (n608, ()), (n609, ()), (n610, ()), xs525, xs526, xs527, xs528, xs529, (n611, ()), (n612, ()), (n613, ()), xs530, xs531, xs532))))
  else
  if r3.Do = 4 then
  (s61_v2 xs505).bind fun y115 =>
  (some y115.2.2).bind fun xs533 =>
  (s18 n581 n582 n583 n584 xs506 xs507 xs508 xs509).bind fun y116 =>
  (some y116.2.2.1.1).bind fun n614 =>
  (some y116.2.2.2.1.1).bind fun n615 =>
  (some y116.2.2.2.2.1.1).bind fun n616 =>
  (some y116.2.2.2.2.2.1.1).bind fun n617 =>
  (some y116.2.2.2.2.2.2.1).bind fun xs534 =>
  (some y116.2.2.2.2.2.2.2.1).bind fun xs535 =>
  (some y116.2.2.2.2.2.2.2.2.1).bind fun xs536 =>
  (some y116.2.2.2.2.2.2.2.2.2.1).bind fun xs537 =>
  (some y116.2.2.2.2.2.2.2.2.2.2.1.1).bind fun n618 =>
  (some y116.2.2.2.2.2.2.2.2.2.2.2.1.1).bind fun n619 =>
  (some y116.2.2.2.2.2.2.2.2.2.2.2.2.1.1).bind fun n620 =>
  (some y116.2.2.2.2.2.2.2.2.2.2.2.2.2.1).bind fun xs538 =>
  (some y116.2.2.2.2.2.2.2.2.2.2.2.2.2.2.1).bind fun xs539 =>
  (some y116.2.2.2.2.2.2.2.2.2.2.2.2.2.2.2).bind fun xs540 =>
  some (.inr (.inr (true, (((), (), (), ()), (), (n614, ()), (n615, ()), (n616, ()), (n617, ()), xs533, xs534, xs535, xs536, xs537, (n618, ()), (n619, ()), (n620, ()), xs538, xs539, xs540))))
  else
  some (.inl (true, (((), (), (), ()), (), (n581, ()), (n582, ()), (n583, ()), (n584, ()), xs505, xs506, xs507, xs508, xs509)))
def s35_v2 (r3 : T_incipitlaw08_Op) (n581 : Int) (n582 : Int) (n583 : Int) (n584 : Int) (xs505 : List Int) (xs506 : List Int) (xs507 : List Int) (xs508 : List Int) (xs509 : List Int) : Option ((Bool × ((Unit × Unit × Unit × Unit) × Unit × (Int × Unit) × (Int × Unit) × (Int × Unit) × (Int × Unit) × List Int × List Int × List Int × List Int × List Int)) ⊕ (Bool × ((Unit × Unit × Unit × Unit) × Unit × (Int × Unit) × (Int × Unit) × (Int × Unit) × (Int × Unit) × List Int × List Int × List Int × List Int × List Int × (Int × Unit) × (Int × Unit) × (Int × Unit) × List Int × List Int × List Int)) ⊕ (Bool × ((Unit × Unit × Unit × Unit) × Unit × (Int × Unit) × (Int × Unit) × (Int × Unit) × (Int × Unit) × List Int × List Int × List Int × List Int × List Int × (Int × Unit) × (Int × Unit) × (Int × Unit) × List Int × List Int × List Int))) := s35_v2F r3 n581 n582 n583 n584 xs505 xs506 xs507 xs508 xs509
/-! ### (*incipit/incipitref08.Map).Of -/
def s62_v2_j2F (r_l1 : Int → Int → Int → (List Int) → (List Int) → Option (Unit × (Unit × List Int × List Int))) (n646 : Int) (n647 : Int) (n648 : Int) (xs562 : List Int) (xs563 : List Int) : Option (Unit × (Unit × List Int × List Int)) :=
  r_l1 n646 n647 (IntKind.i64.wrap (n648 + 1)) xs562 xs563
def s62_v2_j2 (r_l1 : Int → Int → Int → (List Int) → (List Int) → Option (Unit × (Unit × List Int × List Int))) (n646 : Int) (n647 : Int) (n648 : Int) (xs562 : List Int) (xs563 : List Int) : Option (Unit × (Unit × List Int × List Int)) := s62_v2_j2F r_l1 n646 n647 n648 xs562 xs563
def s62_v2_j1F (j2 : Int → Int → Int → (List Int) → (List Int) → Option (Unit × (Unit × List Int × List Int))) (n643 : Int) (n644 : Int) (n645 : Int) (b43 : Bool) (xs559 : List Int) (xs560 : List Int) : Option (Unit × (Unit × List Int × List Int)) :=
  if b43 = true then
  (appI xs560 ([n645] : List Int) 8).bind fun xs561 =>
  j2 n643 n644 n645 xs559 xs561
  else
  j2 n643 n644 n645 xs559 xs560
def s62_v2_j1 (r_l1 : Int → Int → Int → (List Int) → (List Int) → Option (Unit × (Unit × List Int × List Int))) (n643 : Int) (n644 : Int) (n645 : Int) (b43 : Bool) (xs559 : List Int) (xs560 : List Int) : Option (Unit × (Unit × List Int × List Int)) := s62_v2_j1F (s62_v2_j2 r_l1) n643 n644 n645 b43 xs559 xs560
def s62_v2_l1B (j1 : Int → Int → Int → Bool → (List Int) → (List Int) → Option (Unit × (Unit × List Int × List Int))) (n640 : Int) (n641 : Int) (n642 : Int) (xs557 : List Int) (xs558 : List Int) : Option (Unit × (Unit × List Int × List Int)) :=
  if n642 < (xs557.length : Int) then
  if 0 ≤ n642 ∧ n642 < (xs557.length : Int) then
  (getI xs557 n642).bind fun x28 =>
  if x28 = n640 then
  j1 n640 n641 n642 true xs557 xs558
  else
  if 0 ≤ n642 ∧ n642 < (xs557.length : Int) then
  (getI xs557 n642).bind fun x29 =>
  j1 n640 n641 n642 (decide (x29 = n641)) xs557 xs558
  else none
  else none
  else
  some ((), ((), xs557, xs558))
def s62_v2_l1 (n_ : Nat) (n640 : Int) (n641 : Int) (n642 : Int) (xs557 : List Int) (xs558 : List Int) : Option (Unit × (Unit × List Int × List Int)) := iterL (fun (r_ : ((Unit × Int × Int × Unit × Int) × (Unit × (List Int) × (List Int))) → Option (Unit × (Unit × List Int × List Int))) (x : ((Unit × Int × Int × Unit × Int) × (Unit × (List Int) × (List Int)))) => s62_v2_l1B (s62_v2_j1 (fun n640 n641 n642 xs557 xs558 => r_ (((), n640, n641, (), n642), ((), xs557, xs558)))) x.1.2.1 x.1.2.2.1 x.1.2.2.2.2 x.2.2.1 x.2.2.2) n_ (((), n640, n641, (), n642), ((), xs557, xs558))
def s62_v2F (l1 : Int → Int → Int → (List Int) → (List Int) → Option (Unit × (Unit × List Int × List Int))) (n629 : Int) (n630 : Int) (xs551 : List Int) : Option (Unit × (Unit × List Int × List Int)) :=
  l1 n629 n630 0 xs551 []
def s62_v2 (n629 : Int) (n630 : Int) (xs551 : List Int) : Option (Unit × (Unit × List Int × List Int)) := s62_v2F (s62_v2_l1 FUEL) n629 n630 xs551
/-! ### math/bits.OnesCount64 -/
def s74F (n667 : Int) : Option Int :=
  if (0 : Int) ≤ 1 then
  if (0 : Int) ≤ 2 then
  if (0 : Int) ≤ 4 then
  if (0 : Int) ≤ 8 then
  if (0 : Int) ≤ 16 then
  if (0 : Int) ≤ 32 then
  some (andI .i64 (IntKind.i64.wrap (IntKind.u64.wrap ((IntKind.u64.wrap ((IntKind.u64.wrap ((andI .u64 (IntKind.u64.wrap ((shrI .u64 (IntKind.u64.wrap ((andI .u64 (shrI .u64 (IntKind.u64.wrap ((andI .u64 (shrI .u64 n667 1) 6148914691236517205) + (andI .u64 n667 6148914691236517205))) 2) 3689348814741910323) + (andI .u64 (IntKind.u64.wrap ((andI .u64 (shrI .u64 n667 1) 6148914691236517205) + (andI .u64 n667 6148914691236517205))) 3689348814741910323))) 4) + (IntKind.u64.wrap ((andI .u64 (shrI .u64 (IntKind.u64.wrap ((andI .u64 (shrI .u64 n667 1) 6148914691236517205) + (andI .u64 n667 6148914691236517205))) 2) 3689348814741910323) + (andI .u64 (IntKind.u64.wrap ((andI .u64 (shrI .u64 n667 1) 6148914691236517205) + (andI .u64 n667 6148914691236517205))) 3689348814741910323))))) 1085102592571150095) + (shrI .u64 (andI .u64 (IntKind.u64.wrap ((shrI .u64 (IntKind.u64.wrap ((andI .u64 (shrI .u64 (IntKind.u64.wrap ((andI .u64 (shrI .u64 n667 1) 6148914691236517205) + (andI .u64 n667 6148914691236517205))) 2) 3689348814741910323) + (andI .u64 (IntKind.u64.wrap ((andI .u64 (shrI .u64 n667 1) 6148914691236517205) + (andI .u64 n667 6148914691236517205))) 3689348814741910323))) 4) + (IntKind.u64.wrap ((andI .u64 (shrI .u64 (IntKind.u64.wrap ((andI .u64 (shrI .u64 n667 1) 6148914691236517205) + (andI .u64 n667 6148914691236517205))) 2) 3689348814741910323) + (andI .u64 (IntKind.u64.wrap ((andI .u64 (shrI .u64 n667 1) 6148914691236517205) + (andI .u64 n667 6148914691236517205))) 3689348814741910323))))) 1085102592571150095) 8))) + (shrI .u64 (IntKind.u64.wrap ((andI .u64 (IntKind.u64.wrap ((shrI .u64 (IntKind.u64.wrap ((andI .u64 (shrI .u64 (IntKind.u64.wrap ((andI .u64 (shrI .u64 n667 1) 6148914691236517205) + (andI .u64 n667 6148914691236517205))) 2) 3689348814741910323) + (andI .u64 (IntKind.u64.wrap ((andI .u64 (shrI .u64 n667 1) 6148914691236517205) + (andI .u64 n667 6148914691236517205))) 3689348814741910323))) 4) + (IntKind.u64.wrap ((andI .u64 (shrI .u64 (IntKind.u64.wrap ((andI .u64 (shrI .u64 n667 1) 6148914691236517205) + (andI .u64 n667 6148914691236517205))) 2) 3689348814741910323) + (andI .u64 (IntKind.u64.wrap ((andI .u64 (shrI .u64 n667 1) 6148914691236517205) + (andI .u64 n667 6148914691236517205))) 3689348814741910323))))) 1085102592571150095) + (shrI .u64 (andI .u64 (IntKind.u64.wrap ((shrI .u64 (IntKind.u64.wrap ((andI .u64 (shrI .u64 (IntKind.u64.wrap ((andI .u64 (shrI .u64 n667 1) 6148914691236517205) + (andI .u64 n667 6148914691236517205))) 2) 3689348814741910323) + (andI .u64 (IntKind.u64.wrap ((andI .u64 (shrI .u64 n667 1) 6148914691236517205) + (andI .u64 n667 6148914691236517205))) 3689348814741910323))) 4) + (IntKind.u64.wrap ((andI .u64 (shrI .u64 (IntKind.u64.wrap ((andI .u64 (shrI .u64 n667 1) 6148914691236517205) + (andI .u64 n667 6148914691236517205))) 2) 3689348814741910323) + (andI .u64 (IntKind.u64.wrap ((andI .u64 (shrI .u64 n667 1) 6148914691236517205) + (andI .u64 n667 6148914691236517205))) 3689348814741910323))))) 1085102592571150095) 8))) 16))) + (shrI .u64 (IntKind.u64.wrap ((IntKind.u64.wrap ((andI .u64 (IntKind.u64.wrap ((shrI .u64 (IntKind.u64.wrap ((andI .u64 (shrI .u64 (IntKind.u64.wrap ((andI .u64 (shrI .u64 n667 1) 6148914691236517205) + (andI .u64 n667 6148914691236517205))) 2) 3689348814741910323) + (andI .u64 (IntKind.u64.wrap ((andI .u64 (shrI .u64 n667 1) 6148914691236517205) + (andI .u64 n667 6148914691236517205))) 3689348814741910323))) 4) + (IntKind.u64.wrap ((andI .u64 (shrI .u64 (IntKind.u64.wrap ((andI .u64 (shrI .u64 n667 1) 6148914691236517205) + (andI .u64 n667 6148914691236517205))) 2) 3689348814741910323) + (andI .u64 (IntKind.u64.wrap ((andI .u64 (shrI .u64 n667 1) 6148914691236517205) + (andI .u64 n667 6148914691236517205))) 3689348814741910323))))) 1085102592571150095) + (shrI .u64 (andI .u64 (IntKind.u64.wrap ((shrI .u64 (IntKind.u64.wrap ((andI .u64 (shrI .u64 (IntKind.u64.wrap ((andI .u64 (shrI .u64 n667 1) 6148914691236517205) + (andI .u64 n667 6148914691236517205))) 2) 3689348814741910323) + (andI .u64 (IntKind.u64.wrap ((andI .u64 (shrI .u64 n667 1) 6148914691236517205) + (andI .u64 n667 6148914691236517205))) 3689348814741910323))) 4) + (IntKind.u64.wrap ((andI .u64 (shrI .u64 (IntKind.u64.wrap ((andI .u64 (shrI .u64 n667 1) 6148914691236517205) + (andI .u64 n667 6148914691236517205))) 2) 3689348814741910323) + (andI .u64 (IntKind.u64.wrap ((andI .u64 (shrI .u64 n667 1) 6148914691236517205) + (andI .u64 n667 6148914691236517205))) 3689348814741910323))))) 1085102592571150095) 8))) + (shrI .u64 (IntKind.u64.wrap ((andI .u64 (IntKind.u64.wrap ((shrI .u64 (IntKind.u64.wrap ((andI .u64 (shrI .u64 (IntKind.u64.wrap ((andI .u64 (shrI .u64 n667 1) 6148914691236517205) + (andI .u64 n667 6148914691236517205))) 2) 3689348814741910323) + (andI .u64 (IntKind.u64.wrap ((andI .u64 (shrI .u64 n667 1) 6148914691236517205) + (andI .u64 n667 6148914691236517205))) 3689348814741910323))) 4) + (IntKind.u64.wrap ((andI .u64 (shrI .u64 (IntKind.u64.wrap ((andI .u64 (shrI .u64 n667 1) 6148914691236517205) + (andI .u64 n667 6148914691236517205))) 2) 3689348814741910323) + (andI .u64 (IntKind.u64.wrap ((andI .u64 (shrI .u64 n667 1) 6148914691236517205) + (andI .u64 n667 6148914691236517205))) 3689348814741910323))))) 1085102592571150095) + (shrI .u64 (andI .u64 (IntKind.u64.wrap ((shrI .u64 (IntKind.u64.wrap ((andI .u64 (shrI .u64 (IntKind.u64.wrap ((andI .u64 (shrI .u64 n667 1) 6148914691236517205) + (andI .u64 n667 6148914691236517205))) 2) 3689348814741910323) + (andI .u64 (IntKind.u64.wrap ((andI .u64 (shrI .u64 n667 1) 6148914691236517205) + (andI .u64 n667 6148914691236517205))) 3689348814741910323))) 4) + (IntKind.u64.wrap ((andI .u64 (shrI .u64 (IntKind.u64.wrap ((andI .u64 (shrI .u64 n667 1) 6148914691236517205) + (andI .u64 n667 6148914691236517205))) 2) 3689348814741910323) + (andI .u64 (IntKind.u64.wrap ((andI .u64 (shrI .u64 n667 1) 6148914691236517205) + (andI .u64 n667 6148914691236517205))) 3689348814741910323))))) 1085102592571150095) 8))) 16))) 32)))) 127)
  else none
  else none
  else none
  else none
  else none
  else none
def s74 (n667 : Int) : Option Int := s74F n667
/-! ### (*incipit/extent.Set).Len -/
def s54_l1B (r_l1 : Int → Int → Int → Int → (List Int) → Option (Int × ((Int × Unit) × List Int))) (n663 : Int) (n664 : Int) (n665 : Int) (n666 : Int) (xs583 : List Int) : Option (Int × ((Int × Unit) × List Int)) :=
  if n665 < n664 then
  if 0 ≤ n665 ∧ n665 < (xs583.length : Int) then
  (getI xs583 n665).bind fun x30 =>
  (s74 x30).bind fun n668 =>
  r_l1 (IntKind.i64.wrap (n663 + n668)) n664 (IntKind.i64.wrap (n665 + 1)) n666 xs583
  else none
  else
  some (n663, ((n666, ()), xs583))
def s54_l1 (n_ : Nat) (n663 : Int) (n664 : Int) (n665 : Int) (n666 : Int) (xs583 : List Int) : Option (Int × ((Int × Unit) × List Int)) := iterL (fun (r_ : ((Unit × Int × Int × Int) × ((Int × Unit) × (List Int))) → Option (Int × ((Int × Unit) × List Int))) (x : ((Unit × Int × Int × Int) × ((Int × Unit) × (List Int)))) => s54_l1B (fun n663 n664 n665 n666 xs583 => r_ (((), n663, n664, n665), ((n666, ()), xs583))) x.1.2.1 x.1.2.2.1 x.1.2.2.2 x.2.1.1 x.2.2) n_ (((), n663, n664, n665), ((n666, ()), xs583))
def s54F (l1 : Int → Int → Int → Int → (List Int) → Option (Int × ((Int × Unit) × List Int))) (n661 : Int) (xs581 : List Int) : Option (Int × ((Int × Unit) × List Int)) :=
  (s72 n661 xs581).bind fun y124 =>
  (some y124.1).bind fun b45 =>
  (some y124.2.1.1).bind fun n662 =>
  (some y124.2.2).bind fun xs582 =>
  if b45 = true then
  some (0, ((n662, ()), xs582))
  else
  l1 0 (xs582.length : Int) 0 n662 xs582
def s54 (n661 : Int) (xs581 : List Int) : Option (Int × ((Int × Unit) × List Int)) := s54F (s54_l1 FUEL) n661 xs581
/-! ### (*incipit/freemap.Map).Avail -/
def s29F (n653 : Int) (n654 : Int) (n655 : Int) (n656 : Int) (xs573 : List Int) (xs574 : List Int) (xs575 : List Int) (xs576 : List Int) : Option (Int × ((Unit × Unit × Unit × Unit) × (Int × Unit) × (Int × Unit) × (Int × Unit) × (Int × Unit) × List Int × List Int × List Int × List Int)) :=
  (s45_v2 n653 n654 n655 n656 xs573 xs574 xs575 xs576).bind fun y123 =>
  (some y123.2.2.1.1).bind fun n657 =>
  (some y123.2.2.2.1.1).bind fun n658 =>
  (some y123.2.2.2.2.1.1).bind fun n659 =>
  (some y123.2.2.2.2.2.1.1).bind fun n660 =>
  (some y123.2.2.2.2.2.2.1).bind fun xs577 =>
  (some y123.2.2.2.2.2.2.2.1).bind fun xs578 =>
  (some y123.2.2.2.2.2.2.2.2.1).bind fun xs579 =>
  (some y123.2.2.2.2.2.2.2.2.2).bind fun xs580 =>
  (s54 n657 xs577).bind fun y125 =>
  (some y125.1).bind fun n669 =>
  (some y125.2.1.1).bind fun n670 =>
  (some y125.2.2).bind fun xs584 =>
  some (n669, (((), (), (), ()), (n670, ()), (n658, ()), (n659, ()), (n660, ()), xs584, xs578, xs579, xs580))
def s29 (n653 : Int) (n654 : Int) (n655 : Int) (n656 : Int) (xs573 : List Int) (xs574 : List Int) (xs575 : List Int) (xs576 : List Int) : Option (Int × ((Unit × Unit × Unit × Unit) × (Int × Unit) × (Int × Unit) × (Int × Unit) × (Int × Unit) × List Int × List Int × List Int × List Int)) := s29F n653 n654 n655 n656 xs573 xs574 xs575 xs576
/-! ### (*incipit/freemap.Map).Held -/
def s28F (n676 : Int) (n677 : Int) (n678 : Int) (n679 : Int) (xs589 : List Int) (xs590 : List Int) (xs591 : List Int) (xs592 : List Int) : Option (Int × ((Unit × Unit × Unit × Unit) × (Int × Unit) × (Int × Unit) × (Int × Unit) × (Int × Unit) × List Int × List Int × List Int × List Int)) :=
  (s45_v2 n676 n677 n678 n679 xs589 xs590 xs591 xs592).bind fun y127 =>
  (some y127.2.2.1.1).bind fun n680 =>
  (some y127.2.2.2.1.1).bind fun n681 =>
  (some y127.2.2.2.2.1.1).bind fun n682 =>
  (some y127.2.2.2.2.2.1.1).bind fun n683 =>
  (some y127.2.2.2.2.2.2.1).bind fun xs593 =>
  (some y127.2.2.2.2.2.2.2.1).bind fun xs594 =>
  (some y127.2.2.2.2.2.2.2.2.1).bind fun xs595 =>
  (some y127.2.2.2.2.2.2.2.2.2).bind fun xs596 =>
  (s54 n681 xs594).bind fun y128 =>
  (some y128.1).bind fun n684 =>
  (some y128.2.1.1).bind fun n685 =>
  (some y128.2.2).bind fun xs597 =>
  some (n684, (((), (), (), ()), (n680, ()), (n685, ()), (n682, ()), (n683, ()), xs593, xs597, xs595, xs596))
def s28 (n676 : Int) (n677 : Int) (n678 : Int) (n679 : Int) (xs589 : List Int) (xs590 : List Int) (xs591 : List Int) (xs592 : List Int) : Option (Int × ((Unit × Unit × Unit × Unit) × (Int × Unit) × (Int × Unit) × (Int × Unit) × (Int × Unit) × List Int × List Int × List Int × List Int)) := s28F n676 n677 n678 n679 xs589 xs590 xs591 xs592
/-! ### (*incipit/freemap.Map).All -/
def s31F (n691 : Int) (n692 : Int) (n693 : Int) (n694 : Int) (xs604 : List Int) (xs605 : List Int) (xs606 : List Int) (xs607 : List Int) : Option ((Unit × Unit) × ((Unit × Unit × Unit × Unit) × (Int × Unit) × (Int × Unit) × (Int × Unit) × (Int × Unit) × List Int × List Int × List Int × List Int × Unit)) :=
  some (((), ()), (((), (), (), ()), (n691, ()), (n692, ()), (n693, ()), (n694, ()), xs604, xs605, xs606, xs607, ()))
def s31 (n691 : Int) (n692 : Int) (n693 : Int) (n694 : Int) (xs604 : List Int) (xs605 : List Int) (xs606 : List Int) (xs607 : List Int) : Option ((Unit × Unit) × ((Unit × Unit × Unit × Unit) × (Int × Unit) × (Int × Unit) × (Int × Unit) × (Int × Unit) × List Int × List Int × List Int × List Int × Unit)) := s31F n691 n692 n693 n694 xs604 xs605 xs606 xs607
/-! ### (*incipit/freemap.Map).All$1 -/
def s55_j2F (r_r1 : Int → Int → Int → (List Int) → (List Int) → (List Int) → Option (Tr Int (Unit × (Unit × Unit × Unit × Unit) × (Int × Unit) × (Int × Unit) × (Int × Unit) × (Int × Unit) × List Int × List Int × List Int × List Int))) (n725 : Int) (xs636 : List Int) (b46 : Bool) (n727 : Int) (n728 : Int) (n729 : Int) (xs637 : List Int) (xs638 : List Int) (xs639 : List Int) : Option (Tr Int (Unit × (Unit × Unit × Unit × Unit) × (Int × Unit) × (Int × Unit) × (Int × Unit) × (Int × Unit) × List Int × List Int × List Int × List Int)) :=
  if b46 = true then
  some (.done ((), ((), (), (), ()), (n725, ()), (n727, ()), (n728, ()), (n729, ()), xs636, xs637, xs638, xs639))
  else
  r_r1 n727 n728 n729 xs637 xs638 xs639
def s55_j2 (r_r1 : Int → Int → Int → (List Int) → (List Int) → (List Int) → Option (Tr Int (Unit × (Unit × Unit × Unit × Unit) × (Int × Unit) × (Int × Unit) × (Int × Unit) × (Int × Unit) × List Int × List Int × List Int × List Int))) (n725 : Int) (xs636 : List Int) (b46 : Bool) (n727 : Int) (n728 : Int) (n729 : Int) (xs637 : List Int) (xs638 : List Int) (xs639 : List Int) : Option (Tr Int (Unit × (Unit × Unit × Unit × Unit) × (Int × Unit) × (Int × Unit) × (Int × Unit) × (Int × Unit) × List Int × List Int × List Int × List Int)) := s55_j2F r_r1 n725 xs636 b46 n727 n728 n729 xs637 xs638 xs639
def s55_r1B (j2 : Bool → Int → Int → Int → (List Int) → (List Int) → (List Int) → Option (Tr Int (Unit × (Unit × Unit × Unit × Unit) × (Int × Unit) × (Int × Unit) × (Int × Unit) × (Int × Unit) × List Int × List Int × List Int × List Int))) (n726 : Int) (n722 : Int) (n723 : Int) (n724 : Int) (xs633 : List Int) (xs634 : List Int) (xs635 : List Int) : Option (Tr Int (Unit × (Unit × Unit × Unit × Unit) × (Int × Unit) × (Int × Unit) × (Int × Unit) × (Int × Unit) × List Int × List Int × List Int × List Int)) :=
  consT n726 (
  j2 true n722 n723 n724 xs633 xs634 xs635)
  (j2 false n722 n723 n724 xs633 xs634 xs635)
def s55_r1D (n730 : Int) (xs640 : List Int) (n731 : Int) (n732 : Int) (n733 : Int) (xs641 : List Int) (xs642 : List Int) (xs643 : List Int) : Option (Tr Int (Unit × (Unit × Unit × Unit × Unit) × (Int × Unit) × (Int × Unit) × (Int × Unit) × (Int × Unit) × List Int × List Int × List Int × List Int)) :=
  some (.done ((), ((), (), (), ()), (n730, ()), (n731, ()), (n732, ()), (n733, ()), xs640, xs641, xs642, xs643))
def s55_r1 (tr_ : (Tr Int (Unit × (Int × Unit) × (List Int)))) (n722 : Int) (n723 : Int) (n724 : Int) (xs633 : List Int) (xs634 : List Int) (xs635 : List Int) : Option (Tr Int (Unit × (Unit × Unit × Unit × Unit) × (Int × Unit) × (Int × Unit) × (Int × Unit) × (Int × Unit) × List Int × List Int × List Int × List Int)) := iterT (fun (d_ : (Unit × (Int × Unit) × (List Int))) (y_ : (Unit × (Unit × Unit × Unit × Unit) × (Int × Unit) × (Int × Unit) × (Int × Unit) × (List Int) × (List Int) × (List Int) × Unit)) => s55_r1D d_.2.1.1 d_.2.2 y_.2.2.1.1 y_.2.2.2.1.1 y_.2.2.2.2.1.1 y_.2.2.2.2.2.1 y_.2.2.2.2.2.2.1 y_.2.2.2.2.2.2.2.1) (fun (v_ : Int) (t_ : (Unit × (Int × Unit) × (List Int))) (r_ : (Unit × (Unit × Unit × Unit × Unit) × (Int × Unit) × (Int × Unit) × (Int × Unit) × (List Int) × (List Int) × (List Int) × Unit) → Option (Tr Int (Unit × (Unit × Unit × Unit × Unit) × (Int × Unit) × (Int × Unit) × (Int × Unit) × (Int × Unit) × List Int × List Int × List Int × List Int))) (y_ : (Unit × (Unit × Unit × Unit × Unit) × (Int × Unit) × (Int × Unit) × (Int × Unit) × (List Int) × (List Int) × (List Int) × Unit)) => s55_r1B (s55_j2 (fun n722 n723 n724 xs633 xs634 xs635 => r_ ((), ((), (), (), ()), (n722, ()), (n723, ()), (n724, ()), xs633, xs634, xs635, ())) t_.2.1.1 t_.2.2) v_ y_.2.2.1.1 y_.2.2.2.1.1 y_.2.2.2.2.1.1 y_.2.2.2.2.2.1 y_.2.2.2.2.2.2.1 y_.2.2.2.2.2.2.2.1) tr_ ((), ((), (), (), ()), (n722, ()), (n723, ()), (n724, ()), xs633, xs634, xs635, ())
def s55_j1F (r1 : (Tr Int (Unit × (Int × Unit) × (List Int))) → Int → Int → Int → (List Int) → (List Int) → (List Int) → Option (Tr Int (Unit × (Unit × Unit × Unit × Unit) × (Int × Unit) × (Int × Unit) × (Int × Unit) × (Int × Unit) × List Int × List Int × List Int × List Int))) (n718 : Int) (n719 : Int) (n720 : Int) (n721 : Int) (xs629 : List Int) (xs630 : List Int) (xs631 : List Int) (xs632 : List Int) : Option (Tr Int (Unit × (Unit × Unit × Unit × Unit) × (Int × Unit) × (Int × Unit) × (Int × Unit) × (Int × Unit) × List Int × List Int × List Int × List Int)) :=
  (s70 n718 xs629).bind fun tr3 =>
  r1 tr3 n719 n720 n721 xs630 xs631 xs632
def s55_j1 (n718 : Int) (n719 : Int) (n720 : Int) (n721 : Int) (xs629 : List Int) (xs630 : List Int) (xs631 : List Int) (xs632 : List Int) : Option (Tr Int (Unit × (Unit × Unit × Unit × Unit) × (Int × Unit) × (Int × Unit) × (Int × Unit) × (Int × Unit) × List Int × List Int × List Int × List Int)) := s55_j1F s55_r1 n718 n719 n720 n721 xs629 xs630 xs631 xs632
def s55F (j1 : Int → Int → Int → Int → (List Int) → (List Int) → (List Int) → (List Int) → Option (Tr Int (Unit × (Unit × Unit × Unit × Unit) × (Int × Unit) × (Int × Unit) × (Int × Unit) × (Int × Unit) × List Int × List Int × List Int × List Int))) (n709 : Int) (n710 : Int) (n711 : Int) (n712 : Int) (xs620 : List Int) (xs621 : List Int) (xs622 : List Int) (xs623 : List Int) : Option (Tr Int (Unit × (Unit × Unit × Unit × Unit) × (Int × Unit) × (Int × Unit) × (Int × Unit) × (Int × Unit) × List Int × List Int × List Int × List Int)) :=
  (s45_v2 n709 n710 n711 n712 xs620 xs621 xs622 xs623).bind fun y132 =>
  (some y132.2.2.1.1).bind fun n713 =>
  (some y132.2.2.2.1.1).bind fun n714 =>
  (some y132.2.2.2.2.1.1).bind fun n715 =>
  (some y132.2.2.2.2.2.1.1).bind fun n716 =>
  (some y132.2.2.2.2.2.2.1).bind fun xs624 =>
  (some y132.2.2.2.2.2.2.2.1).bind fun xs625 =>
  (some y132.2.2.2.2.2.2.2.2.1).bind fun xs626 =>
  (some y132.2.2.2.2.2.2.2.2.2).bind fun xs627 =>
  (s49 n713 xs624).bind fun y133 =>
  (some y133.2.1.1).bind fun n717 =>
  (some y133.2.2.1).bind fun xs628 =>
  j1 n717 n714 n715 n716 xs628 xs625 xs626 xs627
def s55 (n709 : Int) (n710 : Int) (n711 : Int) (n712 : Int) (xs620 : List Int) (xs621 : List Int) (xs622 : List Int) (xs623 : List Int) : Option (Tr Int (Unit × (Unit × Unit × Unit × Unit) × (Int × Unit) × (Int × Unit) × (Int × Unit) × (Int × Unit) × List Int × List Int × List Int × List Int)) := s55F s55_j1 n709 n710 n711 n712 xs620 xs621 xs622 xs623
/-! ### incipit/incipitlaw08.told -/
def s30_j2F (n751 : Int) (n752 : Int) (n753 : Int) (n754 : Int) (xs660 : List Int) (xs661 : List Int) (xs662 : List Int) (xs663 : List Int) (xs664 : List Int) : Option (Unit × (Unit × (Unit × Unit × Unit × Unit) × (Int × Unit) × (Int × Unit) × (Int × Unit) × (Int × Unit) × List Int × List Int × List Int × List Int × List Int)) :=
  some ((), ((), ((), (), (), ()), (n751, ()), (n752, ()), (n753, ()), (n754, ()), xs660, xs661, xs662, xs663, xs664))
def s30_j2 (n751 : Int) (n752 : Int) (n753 : Int) (n754 : Int) (xs660 : List Int) (xs661 : List Int) (xs662 : List Int) (xs663 : List Int) (xs664 : List Int) : Option (Unit × (Unit × (Unit × Unit × Unit × Unit) × (Int × Unit) × (Int × Unit) × (Int × Unit) × (Int × Unit) × List Int × List Int × List Int × List Int × List Int)) := s30_j2F n751 n752 n753 n754 xs660 xs661 xs662 xs663 xs664
def s30_r1B (j2 : Int → Int → Int → Int → (List Int) → (List Int) → (List Int) → (List Int) → (List Int) → Option (Unit × (Unit × (Unit × Unit × Unit × Unit) × (Int × Unit) × (Int × Unit) × (Int × Unit) × (Int × Unit) × List Int × List Int × List Int × List Int × List Int))) (r_r1 : Int → (List Int) → Option (Unit × (Unit × (Unit × Unit × Unit × Unit) × (Int × Unit) × (Int × Unit) × (Int × Unit) × (Int × Unit) × List Int × List Int × List Int × List Int × List Int))) (n745 : Int) (n741 : Int) (n742 : Int) (n743 : Int) (n744 : Int) (xs650 : List Int) (xs651 : List Int) (xs652 : List Int) (xs653 : List Int) (n740 : Int) (xs649 : List Int) : Option (Unit × (Unit × (Unit × Unit × Unit × Unit) × (Int × Unit) × (Int × Unit) × (Int × Unit) × (Int × Unit) × List Int × List Int × List Int × List Int × List Int)) :=
  if (xs649.length : Int) ≥ n740 then
  j2 n741 n742 n743 n744 xs650 xs651 xs652 xs653 xs649
  else
  (appI xs649 ([n745] : List Int) 8).bind fun xs654 =>
  r_r1 n740 xs654
def s30_r1D (j2 : Int → Int → Int → Int → (List Int) → (List Int) → (List Int) → (List Int) → (List Int) → Option (Unit × (Unit × (Unit × Unit × Unit × Unit) × (Int × Unit) × (Int × Unit) × (Int × Unit) × (Int × Unit) × List Int × List Int × List Int × List Int × List Int))) (n746 : Int) (n747 : Int) (n748 : Int) (n749 : Int) (xs655 : List Int) (xs656 : List Int) (xs657 : List Int) (xs658 : List Int) (n750 : Int) (xs659 : List Int) : Option (Unit × (Unit × (Unit × Unit × Unit × Unit) × (Int × Unit) × (Int × Unit) × (Int × Unit) × (Int × Unit) × List Int × List Int × List Int × List Int × List Int)) :=
  j2 n746 n747 n748 n749 xs655 xs656 xs657 xs658 xs659
def s30_r1 (tr_ : (Tr Int (Unit × (Unit × Unit × Unit × Unit) × (Int × Unit) × (Int × Unit) × (Int × Unit) × (Int × Unit) × (List Int) × (List Int) × (List Int) × (List Int)))) (n740 : Int) (xs649 : List Int) : Option (Unit × (Unit × (Unit × Unit × Unit × Unit) × (Int × Unit) × (Int × Unit) × (Int × Unit) × (Int × Unit) × List Int × List Int × List Int × List Int × List Int)) := iterT (fun (d_ : (Unit × (Unit × Unit × Unit × Unit) × (Int × Unit) × (Int × Unit) × (Int × Unit) × (Int × Unit) × (List Int) × (List Int) × (List Int) × (List Int))) (y_ : (Int × Unit × (List Int))) => s30_r1D s30_j2 d_.2.2.1.1 d_.2.2.2.1.1 d_.2.2.2.2.1.1 d_.2.2.2.2.2.1.1 d_.2.2.2.2.2.2.1 d_.2.2.2.2.2.2.2.1 d_.2.2.2.2.2.2.2.2.1 d_.2.2.2.2.2.2.2.2.2 y_.1 y_.2.2) (fun (v_ : Int) (t_ : (Unit × (Unit × Unit × Unit × Unit) × (Int × Unit) × (Int × Unit) × (Int × Unit) × (Int × Unit) × (List Int) × (List Int) × (List Int) × (List Int))) (r_ : (Int × Unit × (List Int)) → Option (Unit × (Unit × (Unit × Unit × Unit × Unit) × (Int × Unit) × (Int × Unit) × (Int × Unit) × (Int × Unit) × List Int × List Int × List Int × List Int × List Int))) (y_ : (Int × Unit × (List Int))) => s30_r1B s30_j2 (fun n740 xs649 => r_ (n740, (), xs649)) v_ t_.2.2.1.1 t_.2.2.2.1.1 t_.2.2.2.2.1.1 t_.2.2.2.2.2.1.1 t_.2.2.2.2.2.2.1 t_.2.2.2.2.2.2.2.1 t_.2.2.2.2.2.2.2.2.1 t_.2.2.2.2.2.2.2.2.2 y_.1 y_.2.2) tr_ (n740, (), xs649)
def s30_j1F (r1 : (Tr Int (Unit × (Unit × Unit × Unit × Unit) × (Int × Unit) × (Int × Unit) × (Int × Unit) × (Int × Unit) × (List Int) × (List Int) × (List Int) × (List Int))) → Int → (List Int) → Option (Unit × (Unit × (Unit × Unit × Unit × Unit) × (Int × Unit) × (Int × Unit) × (Int × Unit) × (Int × Unit) × List Int × List Int × List Int × List Int × List Int))) (n704 : Int) (n705 : Int) (n706 : Int) (n707 : Int) (xs616 : List Int) (xs617 : List Int) (xs618 : List Int) (xs619 : List Int) (n708 : Int) : Option (Unit × (Unit × (Unit × Unit × Unit × Unit) × (Int × Unit) × (Int × Unit) × (Int × Unit) × (Int × Unit) × List Int × List Int × List Int × List Int × List Int)) :=
  (s55 n704 n705 n706 n707 xs616 xs617 xs618 xs619).bind fun tr4 =>
  r1 tr4 n708 []
def s30_j1 (n704 : Int) (n705 : Int) (n706 : Int) (n707 : Int) (xs616 : List Int) (xs617 : List Int) (xs618 : List Int) (xs619 : List Int) (n708 : Int) : Option (Unit × (Unit × (Unit × Unit × Unit × Unit) × (Int × Unit) × (Int × Unit) × (Int × Unit) × (Int × Unit) × List Int × List Int × List Int × List Int × List Int)) := s30_j1F s30_r1 n704 n705 n706 n707 xs616 xs617 xs618 xs619 n708
def s30F (j1 : Int → Int → Int → Int → (List Int) → (List Int) → (List Int) → (List Int) → Int → Option (Unit × (Unit × (Unit × Unit × Unit × Unit) × (Int × Unit) × (Int × Unit) × (Int × Unit) × (Int × Unit) × List Int × List Int × List Int × List Int × List Int))) (n699 : Int) (n700 : Int) (n701 : Int) (n702 : Int) (n703 : Int) (xs612 : List Int) (xs613 : List Int) (xs614 : List Int) (xs615 : List Int) : Option (Unit × (Unit × (Unit × Unit × Unit × Unit) × (Int × Unit) × (Int × Unit) × (Int × Unit) × (Int × Unit) × List Int × List Int × List Int × List Int × List Int)) :=
  j1 n700 n701 n702 n703 xs612 xs613 xs614 xs615 n699
def s30 (n699 : Int) (n700 : Int) (n701 : Int) (n702 : Int) (n703 : Int) (xs612 : List Int) (xs613 : List Int) (xs614 : List Int) (xs615 : List Int) : Option (Unit × (Unit × (Unit × Unit × Unit × Unit) × (Int × Unit) × (Int × Unit) × (Int × Unit) × (Int × Unit) × List Int × List Int × List Int × List Int × List Int)) := s30F s30_j1 n699 n700 n701 n702 n703 xs612 xs613 xs614 xs615
/-! ### (*incipit/freemap.Map).Mine -/
def s33F (n780 : Int) (n781 : Int) (n782 : Int) (n783 : Int) (n784 : Int) (xs694 : List Int) (xs695 : List Int) (xs696 : List Int) (xs697 : List Int) : Option (Bool × ((Unit × Unit × Unit × Unit) × (Int × Unit) × (Int × Unit) × (Int × Unit) × (Int × Unit) × List Int × List Int × List Int × List Int)) :=
  (s45_v2 n781 n782 n783 n784 xs694 xs695 xs696 xs697).bind fun y139 =>
  (some y139.2.2.1.1).bind fun n785 =>
  (some y139.2.2.2.1.1).bind fun n786 =>
  (some y139.2.2.2.2.1.1).bind fun n787 =>
  (some y139.2.2.2.2.2.1.1).bind fun n788 =>
  (some y139.2.2.2.2.2.2.1).bind fun xs698 =>
  (some y139.2.2.2.2.2.2.2.1).bind fun xs699 =>
  (some y139.2.2.2.2.2.2.2.2.1).bind fun xs700 =>
  (some y139.2.2.2.2.2.2.2.2.2).bind fun xs701 =>
  (s56 n780 n787 xs700).bind fun y140 =>
  (some y140.1).bind fun b51 =>
  (some y140.2.1.1).bind fun n789 =>
  (some y140.2.2).bind fun xs702 =>
  some (b51, (((), (), (), ()), (n785, ()), (n786, ()), (n789, ()), (n788, ()), xs698, xs699, xs702, xs701))
def s33 (n780 : Int) (n781 : Int) (n782 : Int) (n783 : Int) (n784 : Int) (xs694 : List Int) (xs695 : List Int) (xs696 : List Int) (xs697 : List Int) : Option (Bool × ((Unit × Unit × Unit × Unit) × (Int × Unit) × (Int × Unit) × (Int × Unit) × (Int × Unit) × List Int × List Int × List Int × List Int)) := s33F n780 n781 n782 n783 n784 xs694 xs695 xs696 xs697
/-! ### (*incipit/incipitref08.Map).Mine -/
def s64F (n794 : Int) (xs707 : List Int) : Option (Bool × (Unit × List Int)) :=
  if n794 ≥ 0 then
  if n794 < (xs707.length : Int) then
  if 0 ≤ n794 ∧ n794 < (xs707.length : Int) then
  (getI xs707 n794).bind fun x31 =>
  some (decide (x31 = 2), ((), xs707))
  else none
  else
  some (false, ((), xs707))
  else
  some (false, ((), xs707))
def s64 (n794 : Int) (xs707 : List Int) : Option (Bool × (Unit × List Int)) := s64F n794 xs707
/-! ### incipit/incipitlaw08.same -/
def s36_v2_j2F (r_l1 : Int → Int → Int → Int → Int → (List Int) → (List Int) → (List Int) → (List Int) → (List Int) → Option (Bool × ((Unit × Unit × Unit × Unit) × Unit × (Int × Unit) × (Int × Unit) × (Int × Unit) × (Int × Unit) × List Int × List Int × List Int × List Int × List Int))) (n795 : Int) (b54 : Bool) (n796 : Int) (n797 : Int) (n798 : Int) (n799 : Int) (xs709 : List Int) (xs710 : List Int) (xs711 : List Int) (xs712 : List Int) (xs713 : List Int) : Option (Bool × ((Unit × Unit × Unit × Unit) × Unit × (Int × Unit) × (Int × Unit) × (Int × Unit) × (Int × Unit) × List Int × List Int × List Int × List Int × List Int)) :=
  if b54 = true then
  some (false, (((), (), (), ()), (), (n796, ()), (n797, ()), (n798, ()), (n799, ()), xs709, xs710, xs711, xs712, xs713))
  else
  r_l1 (IntKind.i64.wrap (n795 + 1)) n796 n797 n798 n799 xs709 xs710 xs711 xs712 xs713
def s36_v2_j2 (r_l1 : Int → Int → Int → Int → Int → (List Int) → (List Int) → (List Int) → (List Int) → (List Int) → Option (Bool × ((Unit × Unit × Unit × Unit) × Unit × (Int × Unit) × (Int × Unit) × (Int × Unit) × (Int × Unit) × List Int × List Int × List Int × List Int × List Int))) (n795 : Int) (b54 : Bool) (n796 : Int) (n797 : Int) (n798 : Int) (n799 : Int) (xs709 : List Int) (xs710 : List Int) (xs711 : List Int) (xs712 : List Int) (xs713 : List Int) : Option (Bool × ((Unit × Unit × Unit × Unit) × Unit × (Int × Unit) × (Int × Unit) × (Int × Unit) × (Int × Unit) × List Int × List Int × List Int × List Int × List Int)) := s36_v2_j2F r_l1 n795 b54 n796 n797 n798 n799 xs709 xs710 xs711 xs712 xs713
def s36_v2_l1B (j2 : Int → Bool → Int → Int → Int → Int → (List Int) → (List Int) → (List Int) → (List Int) → (List Int) → Option (Bool × ((Unit × Unit × Unit × Unit) × Unit × (Int × Unit) × (Int × Unit) × (Int × Unit) × (Int × Unit) × List Int × List Int × List Int × List Int × List Int))) (n771 : Int) (n772 : Int) (n773 : Int) (n774 : Int) (n775 : Int) (xs684 : List Int) (xs685 : List Int) (xs686 : List Int) (xs687 : List Int) (xs688 : List Int) : Option (Bool × ((Unit × Unit × Unit × Unit) × Unit × (Int × Unit) × (Int × Unit) × (Int × Unit) × (Int × Unit) × List Int × List Int × List Int × List Int × List Int)) :=
  if n771 ≤ (if (40 : Int) < (xs684.length : Int) then 40 else (xs684.length : Int)) then
  (s32 n771 n772 n773 n774 n775 xs685 xs686 xs687 xs688).bind fun y137 =>
  (some y137.1).bind fun b49 =>
  (some y137.2.2.1.1).bind fun n776 =>
  (some y137.2.2.2.1.1).bind fun n777 =>
  (some y137.2.2.2.2.1.1).bind fun n778 =>
  (some y137.2.2.2.2.2.1.1).bind fun n779 =>
  (some y137.2.2.2.2.2.2.1).bind fun xs689 =>
  (some y137.2.2.2.2.2.2.2.1).bind fun xs690 =>
  (some y137.2.2.2.2.2.2.2.2.1).bind fun xs691 =>
  (some y137.2.2.2.2.2.2.2.2.2).bind fun xs692 =>
  (s63_v2 n771 xs684).bind fun y138 =>
  (some y138.1).bind fun b50 =>
  (some y138.2.2).bind fun xs693 =>
  if (b49) ≠ (b50) then
  j2 n771 true n776 n777 n778 n779 xs693 xs689 xs690 xs691 xs692
  else
  (s33 n771 n776 n777 n778 n779 xs689 xs690 xs691 xs692).bind fun y141 =>
  (some y141.1).bind fun b52 =>
  (some y141.2.2.1.1).bind fun n790 =>
  (some y141.2.2.2.1.1).bind fun n791 =>
  (some y141.2.2.2.2.1.1).bind fun n792 =>
  (some y141.2.2.2.2.2.1.1).bind fun n793 =>
  (some y141.2.2.2.2.2.2.1).bind fun xs703 =>
  (some y141.2.2.2.2.2.2.2.1).bind fun xs704 =>
  (some y141.2.2.2.2.2.2.2.2.1).bind fun xs705 =>
  (some y141.2.2.2.2.2.2.2.2.2).bind fun xs706 =>
  (s64 n771 xs693).bind fun y142 =>
  (some y142.1).bind fun b53 =>
  (some y142.2.2).bind fun xs708 =>
  j2 n771 (decide ((b52) ≠ (b53))) n790 n791 n792 n793 xs708 xs703 xs704 xs705 xs706
  else
  some (true, (((), (), (), ()), (), (n772, ()), (n773, ()), (n774, ()), (n775, ()), xs684, xs685, xs686, xs687, xs688))
def s36_v2_l1 (n_ : Nat) (n771 : Int) (n772 : Int) (n773 : Int) (n774 : Int) (n775 : Int) (xs684 : List Int) (xs685 : List Int) (xs686 : List Int) (xs687 : List Int) (xs688 : List Int) : Option (Bool × ((Unit × Unit × Unit × Unit) × Unit × (Int × Unit) × (Int × Unit) × (Int × Unit) × (Int × Unit) × List Int × List Int × List Int × List Int × List Int)) := iterL (fun (r_ : ((Unit × Unit × Int) × ((Unit × Unit × Unit × Unit) × Unit × (Int × Unit) × (Int × Unit) × (Int × Unit) × (Int × Unit) × (List Int) × (List Int) × (List Int) × (List Int) × (List Int))) → Option (Bool × ((Unit × Unit × Unit × Unit) × Unit × (Int × Unit) × (Int × Unit) × (Int × Unit) × (Int × Unit) × List Int × List Int × List Int × List Int × List Int))) (x : ((Unit × Unit × Int) × ((Unit × Unit × Unit × Unit) × Unit × (Int × Unit) × (Int × Unit) × (Int × Unit) × (Int × Unit) × (List Int) × (List Int) × (List Int) × (List Int) × (List Int)))) => s36_v2_l1B (s36_v2_j2 (fun n771 n772 n773 n774 n775 xs684 xs685 xs686 xs687 xs688 => r_ (((), (), n771), (((), (), (), ()), (), (n772, ()), (n773, ()), (n774, ()), (n775, ()), xs684, xs685, xs686, xs687, xs688)))) x.1.2.2 x.2.2.2.1.1 x.2.2.2.2.1.1 x.2.2.2.2.2.1.1 x.2.2.2.2.2.2.1.1 x.2.2.2.2.2.2.2.1 x.2.2.2.2.2.2.2.2.1 x.2.2.2.2.2.2.2.2.2.1 x.2.2.2.2.2.2.2.2.2.2.1 x.2.2.2.2.2.2.2.2.2.2.2) n_ (((), (), n771), (((), (), (), ()), (), (n772, ()), (n773, ()), (n774, ()), (n775, ()), xs684, xs685, xs686, xs687, xs688))
def s36_v2_j1F (l1 : Int → Int → Int → Int → Int → (List Int) → (List Int) → (List Int) → (List Int) → (List Int) → Option (Bool × ((Unit × Unit × Unit × Unit) × Unit × (Int × Unit) × (Int × Unit) × (Int × Unit) × (Int × Unit) × List Int × List Int × List Int × List Int × List Int))) (b48 : Bool) (n767 : Int) (n768 : Int) (n769 : Int) (n770 : Int) (xs679 : List Int) (xs680 : List Int) (xs681 : List Int) (xs682 : List Int) (xs683 : List Int) : Option (Bool × ((Unit × Unit × Unit × Unit) × Unit × (Int × Unit) × (Int × Unit) × (Int × Unit) × (Int × Unit) × List Int × List Int × List Int × List Int × List Int)) :=
  if b48 = true then
  some (false, (((), (), (), ()), (), (n767, ()), (n768, ()), (n769, ()), (n770, ()), xs679, xs680, xs681, xs682, xs683))
  else
  l1 (-1) n767 n768 n769 n770 xs679 xs680 xs681 xs682 xs683
def s36_v2_j1 (b48 : Bool) (n767 : Int) (n768 : Int) (n769 : Int) (n770 : Int) (xs679 : List Int) (xs680 : List Int) (xs681 : List Int) (xs682 : List Int) (xs683 : List Int) : Option (Bool × ((Unit × Unit × Unit × Unit) × Unit × (Int × Unit) × (Int × Unit) × (Int × Unit) × (Int × Unit) × List Int × List Int × List Int × List Int × List Int)) := s36_v2_j1F (s36_v2_l1 FUEL) b48 n767 n768 n769 n770 xs679 xs680 xs681 xs682 xs683
def s36_v2F (j1 : Bool → Int → Int → Int → Int → (List Int) → (List Int) → (List Int) → (List Int) → (List Int) → Option (Bool × ((Unit × Unit × Unit × Unit) × Unit × (Int × Unit) × (Int × Unit) × (Int × Unit) × (Int × Unit) × List Int × List Int × List Int × List Int × List Int))) (n625 : Int) (n626 : Int) (n627 : Int) (n628 : Int) (xs546 : List Int) (xs547 : List Int) (xs548 : List Int) (xs549 : List Int) (xs550 : List Int) : Option (Bool × ((Unit × Unit × Unit × Unit) × Unit × (Int × Unit) × (Int × Unit) × (Int × Unit) × (Int × Unit) × List Int × List Int × List Int × List Int × List Int)) :=
  (s62_v2 0 0 xs546).bind fun y120 =>
  (some y120.2.2.1).bind fun xs564 =>
  (some y120.2.2.2).bind fun xs565 =>
  (s17 n625 n626 n627 n628 xs547 xs548 xs549 xs550).bind fun y121 =>
  (some y121.2.2.1.1).bind fun n649 =>
  (some y121.2.2.2.1.1).bind fun n650 =>
  (some y121.2.2.2.2.1.1).bind fun n651 =>
  (some y121.2.2.2.2.2.1.1).bind fun n652 =>
  (some y121.2.2.2.2.2.2.1).bind fun xs566 =>
  (some y121.2.2.2.2.2.2.2.1).bind fun xs567 =>
  (some y121.2.2.2.2.2.2.2.2.1).bind fun xs568 =>
  (some y121.2.2.2.2.2.2.2.2.2.1).bind fun xs569 =>
  (some y121.2.2.2.2.2.2.2.2.2.2).bind fun xs570 =>
  (s62_v2 1 2 xs564).bind fun y122 =>
  (some y122.2.2.1).bind fun xs571 =>
  (some y122.2.2.2).bind fun xs572 =>
  (s19 xs570 xs572).bind fun b44 =>
  if ¬ b44 = true then
  j1 true n649 n650 n651 n652 xs571 xs566 xs567 xs568 xs569
  else
  (s29 n649 n650 n651 n652 xs566 xs567 xs568 xs569).bind fun y126 =>
  (some y126.1).bind fun n671 =>
  (some y126.2.2.1.1).bind fun n672 =>
  (some y126.2.2.2.1.1).bind fun n673 =>
  (some y126.2.2.2.2.1.1).bind fun n674 =>
  (some y126.2.2.2.2.2.1.1).bind fun n675 =>
  (some y126.2.2.2.2.2.2.1).bind fun xs585 =>
  (some y126.2.2.2.2.2.2.2.1).bind fun xs586 =>
  (some y126.2.2.2.2.2.2.2.2.1).bind fun xs587 =>
  (some y126.2.2.2.2.2.2.2.2.2).bind fun xs588 =>
  if n671 ≠ (xs565.length : Int) then
  j1 true n672 n673 n674 n675 xs571 xs585 xs586 xs587 xs588
  else
  (s28 n672 n673 n674 n675 xs585 xs586 xs587 xs588).bind fun y129 =>
  (some y129.1).bind fun n686 =>
  (some y129.2.2.1.1).bind fun n687 =>
  (some y129.2.2.2.1.1).bind fun n688 =>
  (some y129.2.2.2.2.1.1).bind fun n689 =>
  (some y129.2.2.2.2.2.1.1).bind fun n690 =>
  (some y129.2.2.2.2.2.2.1).bind fun xs598 =>
  (some y129.2.2.2.2.2.2.2.1).bind fun xs599 =>
  (some y129.2.2.2.2.2.2.2.2.1).bind fun xs600 =>
  (some y129.2.2.2.2.2.2.2.2.2).bind fun xs601 =>
  (s62_v2 3 3 xs571).bind fun y130 =>
  (some y130.2.2.1).bind fun xs602 =>
  (some y130.2.2.2).bind fun xs603 =>
  if n686 ≠ (xs603.length : Int) then
  j1 true n687 n688 n689 n690 xs602 xs598 xs599 xs600 xs601
  else
  (s31 n687 n688 n689 n690 xs598 xs599 xs600 xs601).bind fun y131 =>
  (some y131.2.2.1.1).bind fun n695 =>
  (some y131.2.2.2.1.1).bind fun n696 =>
  (some y131.2.2.2.2.1.1).bind fun n697 =>
  (some y131.2.2.2.2.2.1.1).bind fun n698 =>
  (some y131.2.2.2.2.2.2.1).bind fun xs608 =>
  (some y131.2.2.2.2.2.2.2.1).bind fun xs609 =>
  (some y131.2.2.2.2.2.2.2.2.1).bind fun xs610 =>
  (some y131.2.2.2.2.2.2.2.2.2.1).bind fun xs611 =>
  (s30 1048576 n695 n696 n697 n698 xs608 xs609 xs610 xs611).bind fun y134 =>
  (some y134.2.2.2.1.1).bind fun n755 =>
  (some y134.2.2.2.2.1.1).bind fun n756 =>
  (some y134.2.2.2.2.2.1.1).bind fun n757 =>
  (some y134.2.2.2.2.2.2.1.1).bind fun n758 =>
  (some y134.2.2.2.2.2.2.2.1).bind fun xs665 =>
  (some y134.2.2.2.2.2.2.2.2.1).bind fun xs666 =>
  (some y134.2.2.2.2.2.2.2.2.2.1).bind fun xs667 =>
  (some y134.2.2.2.2.2.2.2.2.2.2.1).bind fun xs668 =>
  (some y134.2.2.2.2.2.2.2.2.2.2.2).bind fun xs669 =>
  (s19 xs669 xs565).bind fun b47 =>
  if ¬ b47 = true then
  j1 true n755 n756 n757 n758 xs602 xs665 xs666 xs667 xs668
  else
  (s31 n755 n756 n757 n758 xs665 xs666 xs667 xs668).bind fun y135 =>
  (some y135.2.2.1.1).bind fun n759 =>
  (some y135.2.2.2.1.1).bind fun n760 =>
  (some y135.2.2.2.2.1.1).bind fun n761 =>
  (some y135.2.2.2.2.2.1.1).bind fun n762 =>
  (some y135.2.2.2.2.2.2.1).bind fun xs670 =>
  (some y135.2.2.2.2.2.2.2.1).bind fun xs671 =>
  (some y135.2.2.2.2.2.2.2.2.1).bind fun xs672 =>
  (some y135.2.2.2.2.2.2.2.2.2.1).bind fun xs673 =>
  (s30 2 n759 n760 n761 n762 xs670 xs671 xs672 xs673).bind fun y136 =>
  (some y136.2.2.2.1.1).bind fun n763 =>
  (some y136.2.2.2.2.1.1).bind fun n764 =>
  (some y136.2.2.2.2.2.1.1).bind fun n765 =>
  (some y136.2.2.2.2.2.2.1.1).bind fun n766 =>
  (some y136.2.2.2.2.2.2.2.1).bind fun xs674 =>
  (some y136.2.2.2.2.2.2.2.2.1).bind fun xs675 =>
  (some y136.2.2.2.2.2.2.2.2.2.1).bind fun xs676 =>
  (some y136.2.2.2.2.2.2.2.2.2.2.1).bind fun xs677 =>
  (some y136.2.2.2.2.2.2.2.2.2.2.2).bind fun xs678 =>
  j1 (decide ((xs678.length : Int) ≠ (if (xs565.length : Int) < 2 then (xs565.length : Int) else 2))) n763 n764 n765 n766 xs602 xs674 xs675 xs676 xs677
def s36_v2 (n625 : Int) (n626 : Int) (n627 : Int) (n628 : Int) (xs546 : List Int) (xs547 : List Int) (xs548 : List Int) (xs549 : List Int) (xs550 : List Int) : Option (Bool × ((Unit × Unit × Unit × Unit) × Unit × (Int × Unit) × (Int × Unit) × (Int × Unit) × (Int × Unit) × List Int × List Int × List Int × List Int × List Int)) := s36_v2F s36_v2_j1 n625 n626 n627 n628 xs546 xs547 xs548 xs549 xs550
/-! ### (*incipit/freemap.Map).Clone -/
def s37F (n834 : Int) (n835 : Int) (n836 : Int) (n837 : Int) (xs751 : List Int) (xs752 : List Int) (xs753 : List Int) (xs754 : List Int) : Option (Unit × ((Unit × Unit × Unit × Unit) × (Int × Unit) × (Int × Unit) × (Int × Unit) × (Int × Unit) × List Int × List Int × List Int × List Int × (Unit × Unit × Unit × Unit) × (Int × Unit) × (Int × Unit) × (Int × Unit) × (Int × Unit) × List Int × List Int × List Int × List Int)) :=
  (s45_v2 n834 n835 n836 n837 xs751 xs752 xs753 xs754).bind fun y148 =>
  (some y148.2.2.1.1).bind fun n838 =>
  (some y148.2.2.2.1.1).bind fun n839 =>
  (some y148.2.2.2.2.1.1).bind fun n840 =>
  (some y148.2.2.2.2.2.1.1).bind fun n841 =>
  (some y148.2.2.2.2.2.2.1).bind fun xs755 =>
  (some y148.2.2.2.2.2.2.2.1).bind fun xs756 =>
  (some y148.2.2.2.2.2.2.2.2.1).bind fun xs757 =>
  (some y148.2.2.2.2.2.2.2.2.2).bind fun xs758 =>
  (s65_v2 n838 xs755).bind fun y149 =>
  (some y149.2.1.1).bind fun n842 =>
  (some y149.2.2.1).bind fun xs759 =>
  (some y149.2.2.2.1.1).bind fun n843 =>
  (some y149.2.2.2.2).bind fun xs760 =>
  (s65_v2 n839 xs756).bind fun y150 =>
  (some y150.2.1.1).bind fun n844 =>
  (some y150.2.2.1).bind fun xs761 =>
  (some y150.2.2.2.1.1).bind fun n845 =>
  (some y150.2.2.2.2).bind fun xs762 =>
  (s65_v2 n840 xs757).bind fun y151 =>
  (some y151.2.1.1).bind fun n846 =>
  (some y151.2.2.1).bind fun xs763 =>
  (some y151.2.2.2.1.1).bind fun n847 =>
  (some y151.2.2.2.2).bind fun xs764 =>
  (s65_v2 n841 xs758).bind fun y152 =>
  (some y152.2.1.1).bind fun n848 =>
  (some y152.2.2.1).bind fun xs765 =>
  (some y152.2.2.2.1.1).bind fun n849 =>
  (some y152.2.2.2.2).bind fun xs766 =>
  some ((), (((), (), (), ()), (n842, ()), (n844, ()), (n846, ()), (n848, ()), xs759, xs761, xs763, xs765, ((), (), (), ()), (n843, ()), (n845, ()), (n847, ()), (n849, ()), xs760, xs762, xs764, xs766))
def s37 (n834 : Int) (n835 : Int) (n836 : Int) (n837 : Int) (xs751 : List Int) (xs752 : List Int) (xs753 : List Int) (xs754 : List Int) : Option (Unit × ((Unit × Unit × Unit × Unit) × (Int × Unit) × (Int × Unit) × (Int × Unit) × (Int × Unit) × List Int × List Int × List Int × List Int × (Unit × Unit × Unit × Unit) × (Int × Unit) × (Int × Unit) × (Int × Unit) × (Int × Unit) × List Int × List Int × List Int × List Int)) := s37F n834 n835 n836 n837 xs751 xs752 xs753 xs754
/-! ### incipit/incipitlaw08.FreemapDoes -/
def s7_j4F (xs352 : List T_incipitlaw08_Op) (b32 : Bool) : Option Bool :=
  if b32 = true then
  some false
  else
  some true
def s7_j4 (xs352 : List T_incipitlaw08_Op) (b32 : Bool) : Option Bool := s7_j4F xs352 b32
def s7_j3F (j4 : (List T_incipitlaw08_Op) → Bool → Option Bool) (xs349 : List T_incipitlaw08_Op) (n413 : Int) (n414 : Int) : Option Bool :=
  if n413 ≠ n414 then
  j4 xs349 true
  else
  j4 xs349 (decide ((true) ≠ (true)))
def s7_j3 (xs349 : List T_incipitlaw08_Op) (n413 : Int) (n414 : Int) : Option Bool := s7_j3F s7_j4 xs349 n413 n414
def s7_j6F (xs353 : List T_incipitlaw08_Op) (b33 : Bool) (xs354 : List Int) : Option Bool :=
  if b33 = true then
  some false
  else
  some true
def s7_j6 (xs353 : List T_incipitlaw08_Op) (b33 : Bool) (xs354 : List Int) : Option Bool := s7_j6F xs353 b33 xs354
def s7_j5F (j6 : (List T_incipitlaw08_Op) → Bool → (List Int) → Option Bool) (xs350 : List T_incipitlaw08_Op) (n415 : Int) (n416 : Int) (xs351 : List Int) : Option Bool :=
  if n415 ≠ n416 then
  j6 xs350 true xs351
  else
  j6 xs350 (decide ((true) ≠ (false))) xs351
def s7_j5 (xs350 : List T_incipitlaw08_Op) (n415 : Int) (n416 : Int) (xs351 : List Int) : Option Bool := s7_j5F s7_j6 xs350 n415 n416 xs351
def s7_j2F (j3 : (List T_incipitlaw08_Op) → Int → Int → Option Bool) (j5 : (List T_incipitlaw08_Op) → Int → Int → (List Int) → Option Bool) (n396 : Int) (xs331 : List Int) (xs332 : List T_incipitlaw08_Op) (n397 : Int) : Option Bool :=
  (s34 n396 xs331).bind fun y75 =>
  match y75 with
  | .inl y76 =>
  j3 xs332 n397 1
  | .inr y77 =>
  (some y77.2.2).bind fun xs348 =>
  j5 xs332 n397 0 xs348
def s7_j2 (n396 : Int) (xs331 : List Int) (xs332 : List T_incipitlaw08_Op) (n397 : Int) : Option Bool := s7_j2F s7_j3 s7_j5 n396 xs331 xs332 n397
def s7_l1B (xs373 : List T_incipitlaw08_Op) (n433 : Int) (n434 : Int) (n435 : Int) (n436 : Int) (n437 : Int) (n438 : Int) (xs374 : List Int) (xs375 : List Int) (xs376 : List Int) (xs377 : List Int) : Option Bool :=
  if n434 < n433 then
  (getI xs373 n434).bind fun x18 =>
  (s35 x18 n435 n436 n437 n438 xs374 xs375 xs376 xs377).bind fun y89 =>
  (some y89.1).bind fun b35 =>
  (some y89.2.2.1.1).bind fun n467 =>
  (some y89.2.2.2.1.1).bind fun n468 =>
  (some y89.2.2.2.2.1.1).bind fun n469 =>
  (some y89.2.2.2.2.2.1.1).bind fun n470 =>
  (some y89.2.2.2.2.2.2.1).bind fun xs394 =>
  (some y89.2.2.2.2.2.2.2.1).bind fun xs395 =>
  (some y89.2.2.2.2.2.2.2.2.1).bind fun xs396 =>
  (some y89.2.2.2.2.2.2.2.2.2).bind fun xs397 =>
  if ¬ b35 = true then
  some false
  else
  none
  else
  none
def s7_l1 (n_ : Nat) (xs373 : List T_incipitlaw08_Op) (n433 : Int) (n434 : Int) (n435 : Int) (n436 : Int) (n437 : Int) (n438 : Int) (xs374 : List Int) (xs375 : List Int) (xs376 : List Int) (xs377 : List Int) : Option Bool := iterL (fun (r_ : ((Unit × Unit × (List T_incipitlaw08_Op) × Int × Int) × ((Unit × Unit × Unit × Unit) × (Int × Unit) × (Int × Unit) × (Int × Unit) × (Int × Unit) × (List Int) × (List Int) × (List Int) × (List Int))) → Option Bool) (x : ((Unit × Unit × (List T_incipitlaw08_Op) × Int × Int) × ((Unit × Unit × Unit × Unit) × (Int × Unit) × (Int × Unit) × (Int × Unit) × (Int × Unit) × (List Int) × (List Int) × (List Int) × (List Int)))) => s7_l1B x.1.2.2.1 x.1.2.2.2.1 x.1.2.2.2.2 x.2.2.1.1 x.2.2.2.1.1 x.2.2.2.2.1.1 x.2.2.2.2.2.1.1 x.2.2.2.2.2.2.1 x.2.2.2.2.2.2.2.1 x.2.2.2.2.2.2.2.2.1 x.2.2.2.2.2.2.2.2.2) n_ (((), (), xs373, n433, n434), (((), (), (), ()), (n435, ()), (n436, ()), (n437, ()), (n438, ()), xs374, xs375, xs376, xs377))
def s7_j9F (l1 : (List T_incipitlaw08_Op) → Int → Int → Int → Int → Int → Int → (List Int) → (List Int) → (List Int) → (List Int) → Option Bool) (xs367 : List T_incipitlaw08_Op) (b34 : Bool) (n429 : Int) (n430 : Int) (n431 : Int) (n432 : Int) (xs368 : List Int) (xs369 : List Int) (xs370 : List Int) (xs371 : List Int) : Option Bool :=
  if b34 = true then
  some false
  else
  (cutI xs367 0 (if (60 : Int) < (xs367.length : Int) then 60 else (xs367.length : Int))).bind fun xs372 =>
  l1 xs372 (xs372.length : Int) 0 n429 n430 n431 n432 xs368 xs369 xs370 xs371
def s7_j9 (xs367 : List T_incipitlaw08_Op) (b34 : Bool) (n429 : Int) (n430 : Int) (n431 : Int) (n432 : Int) (xs368 : List Int) (xs369 : List Int) (xs370 : List Int) (xs371 : List Int) : Option Bool := s7_j9F (s7_l1 FUEL) xs367 b34 n429 n430 n431 n432 xs368 xs369 xs370 xs371
def s7_j8F (j9 : (List T_incipitlaw08_Op) → Bool → Int → Int → Int → Int → (List Int) → (List Int) → (List Int) → (List Int) → Option Bool) (xs356 : List T_incipitlaw08_Op) (n417 : Int) (n418 : Int) (n419 : Int) (n420 : Int) (n421 : Int) (n422 : Int) (xs357 : List Int) (xs358 : List Int) (xs359 : List Int) (xs360 : List Int) : Option Bool :=
  if n417 ≠ n418 then
  j9 xs356 true n419 n420 n421 n422 xs357 xs358 xs359 xs360
  else
  j9 xs356 (decide ((false) ≠ (true))) n419 n420 n421 n422 xs357 xs358 xs359 xs360
def s7_j8 (xs356 : List T_incipitlaw08_Op) (n417 : Int) (n418 : Int) (n419 : Int) (n420 : Int) (n421 : Int) (n422 : Int) (xs357 : List Int) (xs358 : List Int) (xs359 : List Int) (xs360 : List Int) : Option Bool := s7_j8F s7_j9 xs356 n417 n418 n419 n420 n421 n422 xs357 xs358 xs359 xs360
def s7_j13F (r_l2 : (List T_incipitlaw08_Op) → Int → Int → Int → Int → Int → Int → (List Int) → (List Int) → (List Int) → (List Int) → (List Int) → Option Bool) (xs867 : List T_incipitlaw08_Op) (n952 : Int) (n953 : Int) (n954 : Int) (n955 : Int) (n956 : Int) (n957 : Int) (xs868 : List Int) (xs869 : List Int) (xs870 : List Int) (xs871 : List Int) (xs872 : List Int) : Option Bool :=
  r_l2 xs867 n952 (IntKind.i64.wrap (n953 + 1)) n954 n955 n956 n957 xs868 xs869 xs870 xs871 xs872
def s7_j13 (r_l2 : (List T_incipitlaw08_Op) → Int → Int → Int → Int → Int → Int → (List Int) → (List Int) → (List Int) → (List Int) → (List Int) → Option Bool) (xs867 : List T_incipitlaw08_Op) (n952 : Int) (n953 : Int) (n954 : Int) (n955 : Int) (n956 : Int) (n957 : Int) (xs868 : List Int) (xs869 : List Int) (xs870 : List Int) (xs871 : List Int) (xs872 : List Int) : Option Bool := s7_j13F r_l2 xs867 n952 n953 n954 n955 n956 n957 xs868 xs869 xs870 xs871 xs872
def s7_j12F (j13 : (List T_incipitlaw08_Op) → Int → Int → Int → Int → Int → Int → (List Int) → (List Int) → (List Int) → (List Int) → (List Int) → Option Bool) (xs838 : List T_incipitlaw08_Op) (n918 : Int) (n919 : Int) (b67 : Bool) (n920 : Int) (n921 : Int) (n922 : Int) (n923 : Int) (n924 : Int) (n925 : Int) (xs839 : List Int) (xs840 : List Int) (xs841 : List Int) (xs842 : List Int) (xs843 : List Int) : Option Bool :=
  if b67 = true then
  some false
  else
  if n920 ≠ 5 then
  j13 xs838 n918 n919 n922 n923 n924 n925 xs839 xs840 xs841 xs842 xs843
  else
  (s37 n922 n923 n924 n925 xs840 xs841 xs842 xs843).bind fun y165 =>
  (some y165.2.2.1.1).bind fun n926 =>
  (some y165.2.2.2.1.1).bind fun n927 =>
  (some y165.2.2.2.2.1.1).bind fun n928 =>
  (some y165.2.2.2.2.2.1.1).bind fun n929 =>
  (some y165.2.2.2.2.2.2.1).bind fun xs844 =>
  (some y165.2.2.2.2.2.2.2.1).bind fun xs845 =>
  (some y165.2.2.2.2.2.2.2.2.1).bind fun xs846 =>
  (some y165.2.2.2.2.2.2.2.2.2.1).bind fun xs847 =>
  (some y165.2.2.2.2.2.2.2.2.2.2.2.1.1).bind fun n930 =>
  (some y165.2.2.2.2.2.2.2.2.2.2.2.2.1.1).bind fun n931 =>
  (some y165.2.2.2.2.2.2.2.2.2.2.2.2.2.1.1).bind fun n932 =>
  (some y165.2.2.2.2.2.2.2.2.2.2.2.2.2.2.1.1).bind fun n933 =>
  (some y165.2.2.2.2.2.2.2.2.2.2.2.2.2.2.2.1).bind fun xs848 =>
  (some y165.2.2.2.2.2.2.2.2.2.2.2.2.2.2.2.2.1).bind fun xs849 =>
  (some y165.2.2.2.2.2.2.2.2.2.2.2.2.2.2.2.2.2.1).bind fun xs850 =>
  (some y165.2.2.2.2.2.2.2.2.2.2.2.2.2.2.2.2.2.2).bind fun xs851 =>
  (s12_v2 n926 n927 n928 n929 xs844 xs845 xs846 xs847).bind fun y166 =>
  (some y166.1.1).bind fun n934 =>
  (some y166.1.2).bind fun n935 =>
  (some y166.2.2.1.1).bind fun n936 =>
  (some y166.2.2.2.1.1).bind fun n937 =>
  (some y166.2.2.2.2.1.1).bind fun n938 =>
  (some y166.2.2.2.2.2.1.1).bind fun n939 =>
  (some y166.2.2.2.2.2.2.1).bind fun xs852 =>
  (some y166.2.2.2.2.2.2.2.1).bind fun xs853 =>
  (some y166.2.2.2.2.2.2.2.2.1).bind fun xs854 =>
  (some y166.2.2.2.2.2.2.2.2.2).bind fun xs855 =>
  (s15 n921 n936 n937 n938 n939 xs852 xs853 xs854 xs855).bind fun y167 =>
  (some y167.1).bind fun n940 =>
  (some y167.2.2.1.1).bind fun n941 =>
  (some y167.2.2.2.1.1).bind fun n942 =>
  (some y167.2.2.2.2.1.1).bind fun n943 =>
  (some y167.2.2.2.2.2.1.1).bind fun n944 =>
  (some y167.2.2.2.2.2.2.1).bind fun xs856 =>
  (some y167.2.2.2.2.2.2.2.1).bind fun xs857 =>
  (some y167.2.2.2.2.2.2.2.2.1).bind fun xs858 =>
  (some y167.2.2.2.2.2.2.2.2.2).bind fun xs859 =>
  (s18 n941 n942 n943 n944 xs856 xs857 xs858 xs859).bind fun y168 =>
  (some y168.2.2.1.1).bind fun n945 =>
  (some y168.2.2.2.1.1).bind fun n946 =>
  (some y168.2.2.2.2.1.1).bind fun n947 =>
  (some y168.2.2.2.2.2.1.1).bind fun n948 =>
  (some y168.2.2.2.2.2.2.1).bind fun xs860 =>
  (some y168.2.2.2.2.2.2.2.1).bind fun xs861 =>
  (some y168.2.2.2.2.2.2.2.2.1).bind fun xs862 =>
  (some y168.2.2.2.2.2.2.2.2.2.1).bind fun xs863 =>
  (some y168.2.2.2.2.2.2.2.2.2.2.1.1).bind fun n949 =>
  (some y168.2.2.2.2.2.2.2.2.2.2.2.1.1).bind fun n950 =>
  (some y168.2.2.2.2.2.2.2.2.2.2.2.2.1.1).bind fun n951 =>
  (some y168.2.2.2.2.2.2.2.2.2.2.2.2.2.1).bind fun xs864 =>
  (some y168.2.2.2.2.2.2.2.2.2.2.2.2.2.2.1).bind fun xs865 =>
  (some y168.2.2.2.2.2.2.2.2.2.2.2.2.2.2.2).bind fun xs866 =>
  j13 xs838 n918 n919 n930 n931 n932 n933 xs839 xs848 xs849 xs850 xs851
def s7_j12 (r_l2 : (List T_incipitlaw08_Op) → Int → Int → Int → Int → Int → Int → (List Int) → (List Int) → (List Int) → (List Int) → (List Int) → Option Bool) (xs838 : List T_incipitlaw08_Op) (n918 : Int) (n919 : Int) (b67 : Bool) (n920 : Int) (n921 : Int) (n922 : Int) (n923 : Int) (n924 : Int) (n925 : Int) (xs839 : List Int) (xs840 : List Int) (xs841 : List Int) (xs842 : List Int) (xs843 : List Int) : Option Bool := s7_j12F (s7_j13 r_l2) xs838 n918 n919 b67 n920 n921 n922 n923 n924 n925 xs839 xs840 xs841 xs842 xs843
def s7_l2B (j12 : (List T_incipitlaw08_Op) → Int → Int → Bool → Int → Int → Int → Int → Int → Int → (List Int) → (List Int) → (List Int) → (List Int) → (List Int) → Option Bool) (xs796 : List T_incipitlaw08_Op) (n882 : Int) (n883 : Int) (n884 : Int) (n885 : Int) (n886 : Int) (n887 : Int) (xs797 : List Int) (xs798 : List Int) (xs799 : List Int) (xs800 : List Int) (xs801 : List Int) : Option Bool :=
  if n883 < n882 then
  (getI xs796 n883).bind fun x32 =>
  (s35_v2 x32 n884 n885 n886 n887 xs797 xs798 xs799 xs800 xs801).bind fun y157 =>
  match y157 with
  | .inl y158 =>
  (some y158.1).bind fun b61 =>
  (some y158.2.2.2.1.1).bind fun n888 =>
  (some y158.2.2.2.2.1.1).bind fun n889 =>
  (some y158.2.2.2.2.2.1.1).bind fun n890 =>
  (some y158.2.2.2.2.2.2.1.1).bind fun n891 =>
  (some y158.2.2.2.2.2.2.2.1).bind fun xs802 =>
  (some y158.2.2.2.2.2.2.2.2.1).bind fun xs803 =>
  (some y158.2.2.2.2.2.2.2.2.2.1).bind fun xs804 =>
  (some y158.2.2.2.2.2.2.2.2.2.2.1).bind fun xs805 =>
  (some y158.2.2.2.2.2.2.2.2.2.2.2).bind fun xs806 =>
  if ¬ b61 = true then
  j12 xs796 n882 n883 true x32.Do x32.N n888 n889 n890 n891 xs802 xs803 xs804 xs805 xs806
  else
  (s36_v2 n888 n889 n890 n891 xs802 xs803 xs804 xs805 xs806).bind fun y160 =>
  (some y160.1).bind fun b62 =>
  (some y160.2.2.2.1.1).bind fun n892 =>
  (some y160.2.2.2.2.1.1).bind fun n893 =>
  (some y160.2.2.2.2.2.1.1).bind fun n894 =>
  (some y160.2.2.2.2.2.2.1.1).bind fun n895 =>
  (some y160.2.2.2.2.2.2.2.1).bind fun xs807 =>
  (some y160.2.2.2.2.2.2.2.2.1).bind fun xs808 =>
  (some y160.2.2.2.2.2.2.2.2.2.1).bind fun xs809 =>
  (some y160.2.2.2.2.2.2.2.2.2.2.1).bind fun xs810 =>
  (some y160.2.2.2.2.2.2.2.2.2.2.2).bind fun xs811 =>
  j12 xs796 n882 n883 (decide (¬ b62 = true)) x32.Do x32.N n892 n893 n894 n895 xs807 xs808 xs809 xs810 xs811
  | .inr y159 =>
  match y159 with
  | .inl y161 =>
  (some y161.1).bind fun b63 =>
  (some y161.2.2.2.1.1).bind fun n896 =>
  (some y161.2.2.2.2.1.1).bind fun n897 =>
  (some y161.2.2.2.2.2.1.1).bind fun n898 =>
  (some y161.2.2.2.2.2.2.1.1).bind fun n899 =>
  (some y161.2.2.2.2.2.2.2.1).bind fun xs812 =>
  (some y161.2.2.2.2.2.2.2.2.1).bind fun xs813 =>
  (some y161.2.2.2.2.2.2.2.2.2.1).bind fun xs814 =>
  (some y161.2.2.2.2.2.2.2.2.2.2.1).bind fun xs815 =>
  (some y161.2.2.2.2.2.2.2.2.2.2.2.1).bind fun xs816 =>
  (some y161.2.2.2.2.2.2.2.2.2.2.2.2.1.1).bind fun n900 =>
  (some y161.2.2.2.2.2.2.2.2.2.2.2.2.2.1.1).bind fun n901 =>
  (some y161.2.2.2.2.2.2.2.2.2.2.2.2.2.2.1.1).bind fun n902 =>
  (some y161.2.2.2.2.2.2.2.2.2.2.2.2.2.2.2.1).bind fun xs817 =>
  (some y161.2.2.2.2.2.2.2.2.2.2.2.2.2.2.2.2.1).bind fun xs818 =>
  (some y161.2.2.2.2.2.2.2.2.2.2.2.2.2.2.2.2.2).bind fun xs819 =>
  if ¬ b63 = true then
  j12 xs796 n882 n883 true x32.Do x32.N n896 n900 n901 n902 xs812 xs813 xs817 xs818 xs819
  else
  (s36_v2 n896 n900 n901 n902 xs812 xs813 xs817 xs818 xs819).bind fun y163 =>
  (some y163.1).bind fun b64 =>
  (some y163.2.2.2.1.1).bind fun n903 =>
  (some y163.2.2.2.2.1.1).bind fun n904 =>
  (some y163.2.2.2.2.2.1.1).bind fun n905 =>
  (some y163.2.2.2.2.2.2.1.1).bind fun n906 =>
  (some y163.2.2.2.2.2.2.2.1).bind fun xs820 =>
  (some y163.2.2.2.2.2.2.2.2.1).bind fun xs821 =>
  (some y163.2.2.2.2.2.2.2.2.2.1).bind fun xs822 =>
  (some y163.2.2.2.2.2.2.2.2.2.2.1).bind fun xs823 =>
  (some y163.2.2.2.2.2.2.2.2.2.2.2).bind fun xs824 =>
  j12 xs796 n882 n883 (decide (¬ b64 = true)) x32.Do x32.N n903 n904 n905 n906 xs820 xs821 xs822 xs823 xs824
  | .inr y162 =>
  (some y162.1).bind fun b65 =>
  (some y162.2.2.2.1.1).bind fun n907 =>
  (some y162.2.2.2.2.1.1).bind fun n908 =>
  (some y162.2.2.2.2.2.1.1).bind fun n909 =>
  (some y162.2.2.2.2.2.2.1.1).bind fun n910 =>
  (some y162.2.2.2.2.2.2.2.1).bind fun xs825 =>
  (some y162.2.2.2.2.2.2.2.2.1).bind fun xs826 =>
  (some y162.2.2.2.2.2.2.2.2.2.1).bind fun xs827 =>
  (some y162.2.2.2.2.2.2.2.2.2.2.1).bind fun xs828 =>
  (some y162.2.2.2.2.2.2.2.2.2.2.2.1).bind fun xs829 =>
  (some y162.2.2.2.2.2.2.2.2.2.2.2.2.1.1).bind fun n911 =>
  (some y162.2.2.2.2.2.2.2.2.2.2.2.2.2.1.1).bind fun n912 =>
  (some y162.2.2.2.2.2.2.2.2.2.2.2.2.2.2.1.1).bind fun n913 =>
  (some y162.2.2.2.2.2.2.2.2.2.2.2.2.2.2.2.1).bind fun xs830 =>
  (some y162.2.2.2.2.2.2.2.2.2.2.2.2.2.2.2.2.1).bind fun xs831 =>
  (some y162.2.2.2.2.2.2.2.2.2.2.2.2.2.2.2.2.2).bind fun xs832 =>
  if ¬ b65 = true then
  j12 xs796 n882 n883 true x32.Do x32.N n910 n911 n912 n913 xs825 xs829 xs830 xs831 xs832
  else
  (s36_v2 n910 n911 n912 n913 xs825 xs829 xs830 xs831 xs832).bind fun y164 =>
  (some y164.1).bind fun b66 =>
  (some y164.2.2.2.1.1).bind fun n914 =>
  (some y164.2.2.2.2.1.1).bind fun n915 =>
  (some y164.2.2.2.2.2.1.1).bind fun n916 =>
  (some y164.2.2.2.2.2.2.1.1).bind fun n917 =>
  (some y164.2.2.2.2.2.2.2.1).bind fun xs833 =>
  (some y164.2.2.2.2.2.2.2.2.1).bind fun xs834 =>
  (some y164.2.2.2.2.2.2.2.2.2.1).bind fun xs835 =>
  (some y164.2.2.2.2.2.2.2.2.2.2.1).bind fun xs836 =>
  (some y164.2.2.2.2.2.2.2.2.2.2.2).bind fun xs837 =>
  j12 xs796 n882 n883 (decide (¬ b66 = true)) x32.Do x32.N n914 n915 n916 n917 xs833 xs834 xs835 xs836 xs837
  else
  (s36_v2 n884 n885 n886 n887 xs797 xs798 xs799 xs800 xs801).bind fun y169 =>
  (some y169.1).bind fun b68 =>
  (some y169.2.2.2.1.1).bind fun n958 =>
  (some y169.2.2.2.2.1.1).bind fun n959 =>
  (some y169.2.2.2.2.2.1.1).bind fun n960 =>
  (some y169.2.2.2.2.2.2.1.1).bind fun n961 =>
  (some y169.2.2.2.2.2.2.2.1).bind fun xs873 =>
  (some y169.2.2.2.2.2.2.2.2.1).bind fun xs874 =>
  (some y169.2.2.2.2.2.2.2.2.2.1).bind fun xs875 =>
  (some y169.2.2.2.2.2.2.2.2.2.2.1).bind fun xs876 =>
  (some y169.2.2.2.2.2.2.2.2.2.2.2).bind fun xs877 =>
  some b68
def s7_l2 (n_ : Nat) (xs796 : List T_incipitlaw08_Op) (n882 : Int) (n883 : Int) (n884 : Int) (n885 : Int) (n886 : Int) (n887 : Int) (xs797 : List Int) (xs798 : List Int) (xs799 : List Int) (xs800 : List Int) (xs801 : List Int) : Option Bool := iterL (fun (r_ : ((Unit × Unit × (List T_incipitlaw08_Op) × Int × Int) × ((Unit × Unit × Unit × Unit) × Unit × (Int × Unit) × (Int × Unit) × (Int × Unit) × (Int × Unit) × (List Int) × (List Int) × (List Int) × (List Int) × (List Int))) → Option Bool) (x : ((Unit × Unit × (List T_incipitlaw08_Op) × Int × Int) × ((Unit × Unit × Unit × Unit) × Unit × (Int × Unit) × (Int × Unit) × (Int × Unit) × (Int × Unit) × (List Int) × (List Int) × (List Int) × (List Int) × (List Int)))) => s7_l2B (s7_j12 (fun xs796 n882 n883 n884 n885 n886 n887 xs797 xs798 xs799 xs800 xs801 => r_ (((), (), xs796, n882, n883), (((), (), (), ()), (), (n884, ()), (n885, ()), (n886, ()), (n887, ()), xs797, xs798, xs799, xs800, xs801)))) x.1.2.2.1 x.1.2.2.2.1 x.1.2.2.2.2 x.2.2.2.1.1 x.2.2.2.2.1.1 x.2.2.2.2.2.1.1 x.2.2.2.2.2.2.1.1 x.2.2.2.2.2.2.2.1 x.2.2.2.2.2.2.2.2.1 x.2.2.2.2.2.2.2.2.2.1 x.2.2.2.2.2.2.2.2.2.2.1 x.2.2.2.2.2.2.2.2.2.2.2) n_ (((), (), xs796, n882, n883), (((), (), (), ()), (), (n884, ()), (n885, ()), (n886, ()), (n887, ()), xs797, xs798, xs799, xs800, xs801))
def s7_j11F (l2 : (List T_incipitlaw08_Op) → Int → Int → Int → Int → Int → Int → (List Int) → (List Int) → (List Int) → (List Int) → (List Int) → Option Bool) (xs402 : List T_incipitlaw08_Op) (b36 : Bool) (n480 : Int) (n481 : Int) (n482 : Int) (n483 : Int) (xs403 : List Int) (xs404 : List Int) (xs405 : List Int) (xs406 : List Int) (xs407 : List Int) : Option Bool :=
  if b36 = true then
  some false
  else
  (cutI xs402 0 (if (60 : Int) < (xs402.length : Int) then 60 else (xs402.length : Int))).bind fun xs408 =>
  l2 xs408 (xs408.length : Int) 0 n480 n481 n482 n483 xs403 xs404 xs405 xs406 xs407
def s7_j11 (xs402 : List T_incipitlaw08_Op) (b36 : Bool) (n480 : Int) (n481 : Int) (n482 : Int) (n483 : Int) (xs403 : List Int) (xs404 : List Int) (xs405 : List Int) (xs406 : List Int) (xs407 : List Int) : Option Bool := s7_j11F (s7_l2 FUEL) xs402 b36 n480 n481 n482 n483 xs403 xs404 xs405 xs406 xs407
def s7_j10F (j11 : (List T_incipitlaw08_Op) → Bool → Int → Int → Int → Int → (List Int) → (List Int) → (List Int) → (List Int) → (List Int) → Option Bool) (xs361 : List T_incipitlaw08_Op) (n423 : Int) (n424 : Int) (n425 : Int) (n426 : Int) (n427 : Int) (n428 : Int) (xs362 : List Int) (xs363 : List Int) (xs364 : List Int) (xs365 : List Int) (xs366 : List Int) : Option Bool :=
  if n423 ≠ n424 then
  j11 xs361 true n425 n426 n427 n428 xs362 xs363 xs364 xs365 xs366
  else
  j11 xs361 (decide ((false) ≠ (false))) n425 n426 n427 n428 xs362 xs363 xs364 xs365 xs366
def s7_j10 (xs361 : List T_incipitlaw08_Op) (n423 : Int) (n424 : Int) (n425 : Int) (n426 : Int) (n427 : Int) (n428 : Int) (xs362 : List Int) (xs363 : List Int) (xs364 : List Int) (xs365 : List Int) (xs366 : List Int) : Option Bool := s7_j10F s7_j11 xs361 n423 n424 n425 n426 n427 n428 xs362 xs363 xs364 xs365 xs366
def s7_j7F (j8 : (List T_incipitlaw08_Op) → Int → Int → Int → Int → Int → Int → (List Int) → (List Int) → (List Int) → (List Int) → Option Bool) (j10 : (List T_incipitlaw08_Op) → Int → Int → Int → Int → Int → Int → (List Int) → (List Int) → (List Int) → (List Int) → (List Int) → Option Bool) (n398 : Int) (xs333 : List Int) (xs334 : List T_incipitlaw08_Op) (n399 : Int) (n400 : Int) (n401 : Int) (n402 : Int) (n403 : Int) (xs335 : List Int) (xs336 : List Int) (xs337 : List Int) (xs338 : List Int) : Option Bool :=
  (s34 n398 xs333).bind fun y78 =>
  match y78 with
  | .inl y79 =>
  j8 xs334 n399 1 n400 n401 n402 n403 xs335 xs336 xs337 xs338
  | .inr y80 =>
  (some y80.2.2).bind fun xs355 =>
  j10 xs334 n399 0 n400 n401 n402 n403 xs355 xs335 xs336 xs337 xs338
def s7_j7 (n398 : Int) (xs333 : List Int) (xs334 : List T_incipitlaw08_Op) (n399 : Int) (n400 : Int) (n401 : Int) (n402 : Int) (n403 : Int) (xs335 : List Int) (xs336 : List Int) (xs337 : List Int) (xs338 : List Int) : Option Bool := s7_j7F s7_j8 s7_j10 n398 xs333 xs334 n399 n400 n401 n402 n403 xs335 xs336 xs337 xs338
def s7_j1F (j2 : Int → (List Int) → (List T_incipitlaw08_Op) → Int → Option Bool) (j7 : Int → (List Int) → (List T_incipitlaw08_Op) → Int → Int → Int → Int → Int → (List Int) → (List Int) → (List Int) → (List Int) → Option Bool) (n391 : Int) (xs318 : List Int) (xs319 : List T_incipitlaw08_Op) (b26 : Bool) : Option Bool :=
  if b26 = true then
  (s9).bind fun b27 =>
  some b27
  else
  (s11 xs318).bind fun y71 =>
  (some y71.2).bind fun xs326 =>
  (s10 n391 xs326).bind fun y72 =>
  match y72 with
  | .inl y73 =>
  j2 n391 xs318 xs319 1
  | .inr y74 =>
  (some y74.2.2.1.1).bind fun n392 =>
  (some y74.2.2.2.1.1).bind fun n393 =>
  (some y74.2.2.2.2.1.1).bind fun n394 =>
  (some y74.2.2.2.2.2.1.1).bind fun n395 =>
  (some y74.2.2.2.2.2.2.1).bind fun xs327 =>
  (some y74.2.2.2.2.2.2.2.1).bind fun xs328 =>
  (some y74.2.2.2.2.2.2.2.2.1).bind fun xs329 =>
  (some y74.2.2.2.2.2.2.2.2.2).bind fun xs330 =>
  j7 n391 xs318 xs319 0 n392 n393 n394 n395 xs327 xs328 xs329 xs330
def s7_j1 (n391 : Int) (xs318 : List Int) (xs319 : List T_incipitlaw08_Op) (b26 : Bool) : Option Bool := s7_j1F s7_j2 s7_j7 n391 xs318 xs319 b26
def s7F (j1 : Int → (List Int) → (List T_incipitlaw08_Op) → Bool → Option Bool) (n1 : Int) (xs1 : List Int) (xs2 : List T_incipitlaw08_Op) : Option Bool :=
  (s9).bind fun b25 =>
  if ¬ b25 = true then
  j1 n1 xs1 xs2 true
  else
  j1 n1 xs1 xs2 (decide ((xs1.length : Int) > 5000))
def s7 (n1 : Int) (xs1 : List Int) (xs2 : List T_incipitlaw08_Op) : Option Bool := s7F s7_j1 n1 xs1 xs2
/-! ### (*incipit/freemap.Map).Taken -/
def s17_v2F : Option Unit :=
  (s45).bind fun y174 =>
  some ()
def s17_v2 : Option Unit := s17_v2F
/-! ### (*incipit/freemap.Map).Free -/
def s15_v2F (n981 : Int) : Option Unit :=
  (s45).bind fun y178 =>
  some ()
def s15_v2 (n981 : Int) : Option Unit := s15_v2F n981
/-! ### (*incipit/freemap.Map).Commit -/
def s16_v2F : Option Unit :=
  (s45).bind fun y180 =>
  some ()
def s16_v2 : Option Unit := s16_v2F
/-! ### (*incipit/freemap.Map).Abort -/
def s18_v2F : Option Unit :=
  (s45).bind fun y182 =>
  some ()
def s18_v2 : Option Unit := s18_v2F
/-! ### slices.Index[[]int,int] -/
def s44_l1B (r_l1 : (List Int) → Int → Int → Int → Option Int) (xs1200 : List Int) (n1304 : Int) (n1305 : Int) (n1306 : Int) : Option Int :=
  if n1306 < n1305 then
  (getI xs1200 n1306).bind fun x41 =>
  if n1304 = x41 then
  some n1306
  else
  r_l1 xs1200 n1304 n1305 (IntKind.i64.wrap (n1306 + 1))
  else
  some (-1)
def s44_l1 (n_ : Nat) (xs1200 : List Int) (n1304 : Int) (n1305 : Int) (n1306 : Int) : Option Int := iterL (fun (r_ : ((List Int) × Int × Int × Int) → Option Int) (x : ((List Int) × Int × Int × Int)) => s44_l1B (fun xs1200 n1304 n1305 n1306 => r_ (xs1200, n1304, n1305, n1306)) x.1 x.2.1 x.2.2.1 x.2.2.2) n_ (xs1200, n1304, n1305, n1306)
def s44F (l1 : (List Int) → Int → Int → Int → Option Int) (xs1199 : List Int) (n1303 : Int) : Option Int :=
  l1 xs1199 n1303 (xs1199.length : Int) 0
def s44 (xs1199 : List Int) (n1303 : Int) : Option Int := s44F (s44_l1 FUEL) xs1199 n1303
/-! ### slices.Contains[[]int,int] -/
def s13F (xs1198 : List Int) (n1302 : Int) : Option Bool :=
  (s44 xs1198 n1302).bind fun n1307 =>
  some (decide (n1307 ≥ 0))
def s13 (xs1198 : List Int) (n1302 : Int) : Option Bool := s13F xs1198 n1302
/-! ### incipit/incipitlaw08.FreemapKeeps -/
def s3_j4F (r_l1 : (List T_incipitlaw08_Op) → Int → Int → (List Int) → Option Bool) (xs1178 : List T_incipitlaw08_Op) (n1283 : Int) (n1284 : Int) (xs1179 : List Int) : Option Bool :=
  r_l1 xs1178 n1283 (IntKind.i64.wrap (n1284 + 1)) xs1179
def s3_j4 (r_l1 : (List T_incipitlaw08_Op) → Int → Int → (List Int) → Option Bool) (xs1178 : List T_incipitlaw08_Op) (n1283 : Int) (n1284 : Int) (xs1179 : List Int) : Option Bool := s3_j4F r_l1 xs1178 n1283 n1284 xs1179
def s3_l1B (j4 : (List T_incipitlaw08_Op) → Int → Int → (List Int) → Option Bool) (xs1176 : List T_incipitlaw08_Op) (n1281 : Int) (n1282 : Int) (xs1177 : List Int) : Option Bool :=
  if n1282 < n1281 then
  (getI xs1176 n1282).bind fun x39 =>
  if x39.Do = 0 then
  (s12).bind fun y235 =>
  j4 xs1176 n1281 n1282 xs1177
  else
  if x39.Do = 1 then
  (s14 x39.N).bind fun y236 =>
  j4 xs1176 n1281 n1282 xs1177
  else
  if x39.Do = 2 then
  (s15_v2 x39.N).bind fun y237 =>
  j4 xs1176 n1281 n1282 xs1177
  else
  if x39.Do = 3 then
  (s16_v2).bind fun y238 =>
  (s17_v2).bind fun y239 =>
  j4 xs1176 n1281 n1282 []
  else
  if x39.Do = 4 then
  (s18_v2).bind fun y240 =>
  (s17_v2).bind fun y241 =>
  (s19 [] xs1177).bind fun b93 =>
  if ¬ b93 = true then
  some false
  else
  j4 xs1176 n1281 n1282 xs1177
  else
  j4 xs1176 n1281 n1282 xs1177
  else
  some true
def s3_l1 (n_ : Nat) (xs1176 : List T_incipitlaw08_Op) (n1281 : Int) (n1282 : Int) (xs1177 : List Int) : Option Bool := iterL (fun (r_ : ((Unit × Unit × (List T_incipitlaw08_Op) × Int × Int) × (List Int)) → Option Bool) (x : ((Unit × Unit × (List T_incipitlaw08_Op) × Int × Int) × (List Int))) => s3_l1B (s3_j4 (fun xs1176 n1281 n1282 xs1177 => r_ (((), (), xs1176, n1281, n1282), xs1177))) x.1.2.2.1 x.1.2.2.2.1 x.1.2.2.2.2 x.2) n_ (((), (), xs1176, n1281, n1282), xs1177)
def s3_j3F (l1 : (List T_incipitlaw08_Op) → Int → Int → (List Int) → Option Bool) (xs1172 : List Int) (xs1173 : List T_incipitlaw08_Op) (n1280 : Int) (b92 : Bool) : Option Bool :=
  if b92 = true then
  if n1280 = 1 then
  some true
  else
  some false
  else
  (s11 xs1172).bind fun y234 =>
  (some y234.2).bind fun xs1174 =>
  (cutI xs1173 0 (if (80 : Int) < (xs1173.length : Int) then 80 else (xs1173.length : Int))).bind fun xs1175 =>
  l1 xs1175 (xs1175.length : Int) 0 xs1174
def s3_j3 (xs1172 : List Int) (xs1173 : List T_incipitlaw08_Op) (n1280 : Int) (b92 : Bool) : Option Bool := s3_j3F (s3_l1 FUEL) xs1172 xs1173 n1280 b92
def s3_j2F (j3 : (List Int) → (List T_incipitlaw08_Op) → Int → Bool → Option Bool) (xs1164 : List Int) (xs1165 : List T_incipitlaw08_Op) (n1274 : Int) : Option Bool :=
  if n1274 ≠ 0 then
  j3 xs1164 xs1165 n1274 true
  else
  j3 xs1164 xs1165 n1274 true
def s3_j2 (xs1164 : List Int) (xs1165 : List T_incipitlaw08_Op) (n1274 : Int) : Option Bool := s3_j2F s3_j3 xs1164 xs1165 n1274
def s3_j8F (r_l2 : (List T_incipitlaw08_Op) → Int → Int → (List Int) → Int → Int → Int → Int → (List Int) → (List Int) → (List Int) → (List Int) → Option Bool) (xs1317 : List T_incipitlaw08_Op) (n1448 : Int) (n1449 : Int) (xs1318 : List Int) (n1450 : Int) (n1451 : Int) (n1452 : Int) (n1453 : Int) (xs1319 : List Int) (xs1320 : List Int) (xs1321 : List Int) (xs1322 : List Int) : Option Bool :=
  r_l2 xs1317 n1448 (IntKind.i64.wrap (n1449 + 1)) xs1318 n1450 n1451 n1452 n1453 xs1319 xs1320 xs1321 xs1322
def s3_j8 (r_l2 : (List T_incipitlaw08_Op) → Int → Int → (List Int) → Int → Int → Int → Int → (List Int) → (List Int) → (List Int) → (List Int) → Option Bool) (xs1317 : List T_incipitlaw08_Op) (n1448 : Int) (n1449 : Int) (xs1318 : List Int) (n1450 : Int) (n1451 : Int) (n1452 : Int) (n1453 : Int) (xs1319 : List Int) (xs1320 : List Int) (xs1321 : List Int) (xs1322 : List Int) : Option Bool := s3_j8F r_l2 xs1317 n1448 n1449 xs1318 n1450 n1451 n1452 n1453 xs1319 xs1320 xs1321 xs1322
def s3_j7F (j8 : (List T_incipitlaw08_Op) → Int → Int → (List Int) → Int → Int → Int → Int → (List Int) → (List Int) → (List Int) → (List Int) → Option Bool) (xs1267 : List T_incipitlaw08_Op) (n1387 : Int) (n1388 : Int) (b100 : Bool) (xs1268 : List Int) (n1389 : Int) (n1390 : Int) (n1391 : Int) (n1392 : Int) (xs1269 : List Int) (xs1270 : List Int) (xs1271 : List Int) (xs1272 : List Int) : Option Bool :=
  if b100 = true then
  some false
  else
  j8 xs1267 n1387 n1388 xs1268 n1389 n1390 n1391 n1392 xs1269 xs1270 xs1271 xs1272
def s3_j7 (r_l2 : (List T_incipitlaw08_Op) → Int → Int → (List Int) → Int → Int → Int → Int → (List Int) → (List Int) → (List Int) → (List Int) → Option Bool) (xs1267 : List T_incipitlaw08_Op) (n1387 : Int) (n1388 : Int) (b100 : Bool) (xs1268 : List Int) (n1389 : Int) (n1390 : Int) (n1391 : Int) (n1392 : Int) (xs1269 : List Int) (xs1270 : List Int) (xs1271 : List Int) (xs1272 : List Int) : Option Bool := s3_j7F (s3_j8 r_l2) xs1267 n1387 n1388 b100 xs1268 n1389 n1390 n1391 n1392 xs1269 xs1270 xs1271 xs1272
def s3_j9F (r_l3 : Int → (List T_incipitlaw08_Op) → Int → Int → Int → Int → (List Int) → Int → Int → Int → Int → Int → Int → (List Int) → (List Int) → (List Int) → (List Int) → Option Bool) (n1410 : Int) (xs1283 : List T_incipitlaw08_Op) (n1411 : Int) (n1412 : Int) (n1413 : Int) (n1414 : Int) (b101 : Bool) (xs1284 : List Int) (n1415 : Int) (n1416 : Int) (n1417 : Int) (n1418 : Int) (n1419 : Int) (n1420 : Int) (xs1285 : List Int) (xs1286 : List Int) (xs1287 : List Int) (xs1288 : List Int) : Option Bool :=
  if b101 = true then
  some false
  else
  r_l3 n1410 xs1283 n1411 n1412 n1413 (IntKind.i64.wrap (n1414 + 1)) xs1284 n1415 n1416 n1417 n1418 n1419 n1420 xs1285 xs1286 xs1287 xs1288
def s3_j9 (r_l3 : Int → (List T_incipitlaw08_Op) → Int → Int → Int → Int → (List Int) → Int → Int → Int → Int → Int → Int → (List Int) → (List Int) → (List Int) → (List Int) → Option Bool) (n1410 : Int) (xs1283 : List T_incipitlaw08_Op) (n1411 : Int) (n1412 : Int) (n1413 : Int) (n1414 : Int) (b101 : Bool) (xs1284 : List Int) (n1415 : Int) (n1416 : Int) (n1417 : Int) (n1418 : Int) (n1419 : Int) (n1420 : Int) (xs1285 : List Int) (xs1286 : List Int) (xs1287 : List Int) (xs1288 : List Int) : Option Bool := s3_j9F r_l3 n1410 xs1283 n1411 n1412 n1413 n1414 b101 xs1284 n1415 n1416 n1417 n1418 n1419 n1420 xs1285 xs1286 xs1287 xs1288
def s3_l3B (j9 : Int → (List T_incipitlaw08_Op) → Int → Int → Int → Int → Bool → (List Int) → Int → Int → Int → Int → Int → Int → (List Int) → (List Int) → (List Int) → (List Int) → Option Bool) (j8 : (List T_incipitlaw08_Op) → Int → Int → (List Int) → Int → Int → Int → Int → (List Int) → (List Int) → (List Int) → (List Int) → Option Bool) (n1399 : Int) (xs1277 : List T_incipitlaw08_Op) (n1400 : Int) (n1401 : Int) (n1402 : Int) (n1403 : Int) (xs1278 : List Int) (n1404 : Int) (n1405 : Int) (n1406 : Int) (n1407 : Int) (n1408 : Int) (n1409 : Int) (xs1279 : List Int) (xs1280 : List Int) (xs1281 : List Int) (xs1282 : List Int) : Option Bool :=
  if n1403 < n1402 then
  if 0 ≤ n1403 ∧ n1403 < (xs1278.length : Int) then
  (getI xs1278 n1403).bind fun x44 =>
  if x44 ≥ n1399 then
  j9 n1399 xs1277 n1400 n1401 n1402 n1403 (decide ((IntKind.i64.wrap (x44 - n1399)) < n1405)) xs1278 n1404 n1405 n1406 n1407 n1408 n1409 xs1279 xs1280 xs1281 xs1282
  else
  j9 n1399 xs1277 n1400 n1401 n1402 n1403 false xs1278 n1404 n1405 n1406 n1407 n1408 n1409 xs1279 xs1280 xs1281 xs1282
  else none
  else
  j8 xs1277 n1400 n1401 xs1278 n1406 n1407 n1408 n1409 xs1279 xs1280 xs1281 xs1282
def s3_l3 (r_l2 : (List T_incipitlaw08_Op) → Int → Int → (List Int) → Int → Int → Int → Int → (List Int) → (List Int) → (List Int) → (List Int) → Option Bool) (n_ : Nat) (n1399 : Int) (xs1277 : List T_incipitlaw08_Op) (n1400 : Int) (n1401 : Int) (n1402 : Int) (n1403 : Int) (xs1278 : List Int) (n1404 : Int) (n1405 : Int) (n1406 : Int) (n1407 : Int) (n1408 : Int) (n1409 : Int) (xs1279 : List Int) (xs1280 : List Int) (xs1281 : List Int) (xs1282 : List Int) : Option Bool := iterL (fun (r_ : ((Unit × Unit × Unit × Int × (List T_incipitlaw08_Op) × Int × Int × Unit × Int × Int) × ((Unit × Unit × Unit × Unit) × (List Int) × (Int × Int) × (Int × Unit) × (Int × Unit) × (Int × Unit) × (Int × Unit) × (List Int) × (List Int) × (List Int) × (List Int))) → Option Bool) (x : ((Unit × Unit × Unit × Int × (List T_incipitlaw08_Op) × Int × Int × Unit × Int × Int) × ((Unit × Unit × Unit × Unit) × (List Int) × (Int × Int) × (Int × Unit) × (Int × Unit) × (Int × Unit) × (Int × Unit) × (List Int) × (List Int) × (List Int) × (List Int)))) => s3_l3B (s3_j9 (fun n1399 xs1277 n1400 n1401 n1402 n1403 xs1278 n1404 n1405 n1406 n1407 n1408 n1409 xs1279 xs1280 xs1281 xs1282 => r_ (((), (), (), n1399, xs1277, n1400, n1401, (), n1402, n1403), (((), (), (), ()), xs1278, (n1404, n1405), (n1406, ()), (n1407, ()), (n1408, ()), (n1409, ()), xs1279, xs1280, xs1281, xs1282)))) (s3_j8 r_l2) x.1.2.2.2.1 x.1.2.2.2.2.1 x.1.2.2.2.2.2.1 x.1.2.2.2.2.2.2.1 x.1.2.2.2.2.2.2.2.2.1 x.1.2.2.2.2.2.2.2.2.2 x.2.2.1 x.2.2.2.1.1 x.2.2.2.1.2 x.2.2.2.2.1.1 x.2.2.2.2.2.1.1 x.2.2.2.2.2.2.1.1 x.2.2.2.2.2.2.2.1.1 x.2.2.2.2.2.2.2.2.1 x.2.2.2.2.2.2.2.2.2.1 x.2.2.2.2.2.2.2.2.2.2.1 x.2.2.2.2.2.2.2.2.2.2.2) n_ (((), (), (), n1399, xs1277, n1400, n1401, (), n1402, n1403), (((), (), (), ()), xs1278, (n1404, n1405), (n1406, ()), (n1407, ()), (n1408, ()), (n1409, ()), xs1279, xs1280, xs1281, xs1282))
def s3_l2B (j7 : (List T_incipitlaw08_Op) → Int → Int → Bool → (List Int) → Int → Int → Int → Int → (List Int) → (List Int) → (List Int) → (List Int) → Option Bool) (l3 : Int → (List T_incipitlaw08_Op) → Int → Int → Int → Int → (List Int) → Int → Int → Int → Int → Int → Int → (List Int) → (List Int) → (List Int) → (List Int) → Option Bool) (j8 : (List T_incipitlaw08_Op) → Int → Int → (List Int) → Int → Int → Int → Int → (List Int) → (List Int) → (List Int) → (List Int) → Option Bool) (xs1257 : List T_incipitlaw08_Op) (n1375 : Int) (n1376 : Int) (xs1258 : List Int) (n1377 : Int) (n1378 : Int) (n1379 : Int) (n1380 : Int) (xs1259 : List Int) (xs1260 : List Int) (xs1261 : List Int) (xs1262 : List Int) : Option Bool :=
  if n1376 < n1375 then
  (getI xs1257 n1376).bind fun x43 =>
  if x43.Do = 0 then
  (s12_v2 n1377 n1378 n1379 n1380 xs1259 xs1260 xs1261 xs1262).bind fun y250 =>
  (some y250.1.1).bind fun n1381 =>
  (some y250.1.2).bind fun n1382 =>
  (some y250.2.2.1.1).bind fun n1383 =>
  (some y250.2.2.2.1.1).bind fun n1384 =>
  (some y250.2.2.2.2.1.1).bind fun n1385 =>
  (some y250.2.2.2.2.2.1.1).bind fun n1386 =>
  (some y250.2.2.2.2.2.2.1).bind fun xs1263 =>
  (some y250.2.2.2.2.2.2.2.1).bind fun xs1264 =>
  (some y250.2.2.2.2.2.2.2.2.1).bind fun xs1265 =>
  (some y250.2.2.2.2.2.2.2.2.2).bind fun xs1266 =>
  if n1382 = 0 then
  (s13 xs1258 n1381).bind fun b99 =>
  j7 xs1257 n1375 n1376 b99 xs1258 n1383 n1384 n1385 n1386 xs1263 xs1264 xs1265 xs1266
  else
  j7 xs1257 n1375 n1376 false xs1258 n1383 n1384 n1385 n1386 xs1263 xs1264 xs1265 xs1266
  else
  if x43.Do = 1 then
  (s14_v2 x43.N n1377 n1378 n1379 n1380 xs1259 xs1260 xs1261 xs1262).bind fun y251 =>
  (some y251.1.1).bind fun n1393 =>
  (some y251.1.2).bind fun n1394 =>
  (some y251.2.2.1.1).bind fun n1395 =>
  (some y251.2.2.2.1.1).bind fun n1396 =>
  (some y251.2.2.2.2.1.1).bind fun n1397 =>
  (some y251.2.2.2.2.2.1.1).bind fun n1398 =>
  (some y251.2.2.2.2.2.2.1).bind fun xs1273 =>
  (some y251.2.2.2.2.2.2.2.1).bind fun xs1274 =>
  (some y251.2.2.2.2.2.2.2.2.1).bind fun xs1275 =>
  (some y251.2.2.2.2.2.2.2.2.2).bind fun xs1276 =>
  if n1394 = 0 then
  l3 n1393 xs1257 n1375 n1376 (xs1258.length : Int) 0 xs1258 x43.Do x43.N n1395 n1396 n1397 n1398 xs1273 xs1274 xs1275 xs1276
  else
  j8 xs1257 n1375 n1376 xs1258 n1395 n1396 n1397 n1398 xs1273 xs1274 xs1275 xs1276
  else
  if x43.Do = 2 then
  (s15 x43.N n1377 n1378 n1379 n1380 xs1259 xs1260 xs1261 xs1262).bind fun y252 =>
  (some y252.1).bind fun n1421 =>
  (some y252.2.2.1.1).bind fun n1422 =>
  (some y252.2.2.2.1.1).bind fun n1423 =>
  (some y252.2.2.2.2.1.1).bind fun n1424 =>
  (some y252.2.2.2.2.2.1.1).bind fun n1425 =>
  (some y252.2.2.2.2.2.2.1).bind fun xs1289 =>
  (some y252.2.2.2.2.2.2.2.1).bind fun xs1290 =>
  (some y252.2.2.2.2.2.2.2.2.1).bind fun xs1291 =>
  (some y252.2.2.2.2.2.2.2.2.2).bind fun xs1292 =>
  j8 xs1257 n1375 n1376 xs1258 n1422 n1423 n1424 n1425 xs1289 xs1290 xs1291 xs1292
  else
  if x43.Do = 3 then
  (s16 n1377 n1378 n1379 n1380 xs1259 xs1260 xs1261 xs1262).bind fun y253 =>
  (some y253.2.2.1.1).bind fun n1426 =>
  (some y253.2.2.2.1.1).bind fun n1427 =>
  (some y253.2.2.2.2.1.1).bind fun n1428 =>
  (some y253.2.2.2.2.2.1.1).bind fun n1429 =>
  (some y253.2.2.2.2.2.2.1).bind fun xs1293 =>
  (some y253.2.2.2.2.2.2.2.1).bind fun xs1294 =>
  (some y253.2.2.2.2.2.2.2.2.1).bind fun xs1295 =>
  (some y253.2.2.2.2.2.2.2.2.2.1).bind fun xs1296 =>
  (some y253.2.2.2.2.2.2.2.2.2.2.1.1).bind fun n1430 =>
  (some y253.2.2.2.2.2.2.2.2.2.2.2.1.1).bind fun n1431 =>
  (some y253.2.2.2.2.2.2.2.2.2.2.2.2.1.1).bind fun n1432 =>
  (some y253.2.2.2.2.2.2.2.2.2.2.2.2.2.1).bind fun xs1297 =>
  (some y253.2.2.2.2.2.2.2.2.2.2.2.2.2.2.1).bind fun xs1298 =>
  (some y253.2.2.2.2.2.2.2.2.2.2.2.2.2.2.2).bind fun xs1299 =>
  (s17 n1426 n1430 n1431 n1432 xs1293 xs1297 xs1298 xs1299).bind fun y254 =>
  (some y254.2.2.1.1).bind fun n1433 =>
  (some y254.2.2.2.1.1).bind fun n1434 =>
  (some y254.2.2.2.2.1.1).bind fun n1435 =>
  (some y254.2.2.2.2.2.1.1).bind fun n1436 =>
  (some y254.2.2.2.2.2.2.1).bind fun xs1300 =>
  (some y254.2.2.2.2.2.2.2.1).bind fun xs1301 =>
  (some y254.2.2.2.2.2.2.2.2.1).bind fun xs1302 =>
  (some y254.2.2.2.2.2.2.2.2.2.1).bind fun xs1303 =>
  (some y254.2.2.2.2.2.2.2.2.2.2).bind fun xs1304 =>
  j8 xs1257 n1375 n1376 xs1304 n1433 n1434 n1435 n1436 xs1300 xs1301 xs1302 xs1303
  else
  if x43.Do = 4 then
  (s18 n1377 n1378 n1379 n1380 xs1259 xs1260 xs1261 xs1262).bind fun y255 =>
  (some y255.2.2.1.1).bind fun n1437 =>
  (some y255.2.2.2.1.1).bind fun n1438 =>
  (some y255.2.2.2.2.1.1).bind fun n1439 =>
  (some y255.2.2.2.2.2.1.1).bind fun n1440 =>
  (some y255.2.2.2.2.2.2.1).bind fun xs1305 =>
  (some y255.2.2.2.2.2.2.2.1).bind fun xs1306 =>
  (some y255.2.2.2.2.2.2.2.2.1).bind fun xs1307 =>
  (some y255.2.2.2.2.2.2.2.2.2.1).bind fun xs1308 =>
  (some y255.2.2.2.2.2.2.2.2.2.2.1.1).bind fun n1441 =>
  (some y255.2.2.2.2.2.2.2.2.2.2.2.1.1).bind fun n1442 =>
  (some y255.2.2.2.2.2.2.2.2.2.2.2.2.1.1).bind fun n1443 =>
  (some y255.2.2.2.2.2.2.2.2.2.2.2.2.2.1).bind fun xs1309 =>
  (some y255.2.2.2.2.2.2.2.2.2.2.2.2.2.2.1).bind fun xs1310 =>
  (some y255.2.2.2.2.2.2.2.2.2.2.2.2.2.2.2).bind fun xs1311 =>
  (s17 n1440 n1441 n1442 n1443 xs1308 xs1309 xs1310 xs1311).bind fun y256 =>
  (some y256.2.2.1.1).bind fun n1444 =>
  (some y256.2.2.2.1.1).bind fun n1445 =>
  (some y256.2.2.2.2.1.1).bind fun n1446 =>
  (some y256.2.2.2.2.2.1.1).bind fun n1447 =>
  (some y256.2.2.2.2.2.2.1).bind fun xs1312 =>
  (some y256.2.2.2.2.2.2.2.1).bind fun xs1313 =>
  (some y256.2.2.2.2.2.2.2.2.1).bind fun xs1314 =>
  (some y256.2.2.2.2.2.2.2.2.2.1).bind fun xs1315 =>
  (some y256.2.2.2.2.2.2.2.2.2.2).bind fun xs1316 =>
  (s19 xs1316 xs1258).bind fun b102 =>
  if ¬ b102 = true then
  some false
  else
  j8 xs1257 n1375 n1376 xs1258 n1444 n1445 n1446 n1447 xs1312 xs1313 xs1314 xs1315
  else
  j8 xs1257 n1375 n1376 xs1258 n1377 n1378 n1379 n1380 xs1259 xs1260 xs1261 xs1262
  else
  some true
def s3_l2 (n_ : Nat) (xs1257 : List T_incipitlaw08_Op) (n1375 : Int) (n1376 : Int) (xs1258 : List Int) (n1377 : Int) (n1378 : Int) (n1379 : Int) (n1380 : Int) (xs1259 : List Int) (xs1260 : List Int) (xs1261 : List Int) (xs1262 : List Int) : Option Bool := iterL (fun (r_ : ((Unit × Unit × (List T_incipitlaw08_Op) × Int × Int) × ((Unit × Unit × Unit × Unit) × (List Int) × (Int × Unit) × (Int × Unit) × (Int × Unit) × (Int × Unit) × (List Int) × (List Int) × (List Int) × (List Int))) → Option Bool) (x : ((Unit × Unit × (List T_incipitlaw08_Op) × Int × Int) × ((Unit × Unit × Unit × Unit) × (List Int) × (Int × Unit) × (Int × Unit) × (Int × Unit) × (Int × Unit) × (List Int) × (List Int) × (List Int) × (List Int)))) => s3_l2B (s3_j7 (fun xs1257 n1375 n1376 xs1258 n1377 n1378 n1379 n1380 xs1259 xs1260 xs1261 xs1262 => r_ (((), (), xs1257, n1375, n1376), (((), (), (), ()), xs1258, (n1377, ()), (n1378, ()), (n1379, ()), (n1380, ()), xs1259, xs1260, xs1261, xs1262)))) (s3_l3 (fun xs1257 n1375 n1376 xs1258 n1377 n1378 n1379 n1380 xs1259 xs1260 xs1261 xs1262 => r_ (((), (), xs1257, n1375, n1376), (((), (), (), ()), xs1258, (n1377, ()), (n1378, ()), (n1379, ()), (n1380, ()), xs1259, xs1260, xs1261, xs1262))) FUEL) (s3_j8 (fun xs1257 n1375 n1376 xs1258 n1377 n1378 n1379 n1380 xs1259 xs1260 xs1261 xs1262 => r_ (((), (), xs1257, n1375, n1376), (((), (), (), ()), xs1258, (n1377, ()), (n1378, ()), (n1379, ()), (n1380, ()), xs1259, xs1260, xs1261, xs1262)))) x.1.2.2.1 x.1.2.2.2.1 x.1.2.2.2.2 x.2.2.1 x.2.2.2.1.1 x.2.2.2.2.1.1 x.2.2.2.2.2.1.1 x.2.2.2.2.2.2.1.1 x.2.2.2.2.2.2.2.1 x.2.2.2.2.2.2.2.2.1 x.2.2.2.2.2.2.2.2.2.1 x.2.2.2.2.2.2.2.2.2.2) n_ (((), (), xs1257, n1375, n1376), (((), (), (), ()), xs1258, (n1377, ()), (n1378, ()), (n1379, ()), (n1380, ()), xs1259, xs1260, xs1261, xs1262))
def s3_j6F (l2 : (List T_incipitlaw08_Op) → Int → Int → (List Int) → Int → Int → Int → Int → (List Int) → (List Int) → (List Int) → (List Int) → Option Bool) (xs1180 : List Int) (xs1181 : List T_incipitlaw08_Op) (n1285 : Int) (b94 : Bool) (n1286 : Int) (n1287 : Int) (n1288 : Int) (n1289 : Int) (xs1182 : List Int) (xs1183 : List Int) (xs1184 : List Int) (xs1185 : List Int) : Option Bool :=
  if b94 = true then
  if n1285 = 1 then
  some false
  else
  some false
  else
  (s11 xs1180).bind fun y242 =>
  (some y242.2).bind fun xs1186 =>
  (cutI xs1181 0 (if (80 : Int) < (xs1181.length : Int) then 80 else (xs1181.length : Int))).bind fun xs1187 =>
  l2 xs1187 (xs1187.length : Int) 0 xs1186 n1286 n1287 n1288 n1289 xs1182 xs1183 xs1184 xs1185
def s3_j6 (xs1180 : List Int) (xs1181 : List T_incipitlaw08_Op) (n1285 : Int) (b94 : Bool) (n1286 : Int) (n1287 : Int) (n1288 : Int) (n1289 : Int) (xs1182 : List Int) (xs1183 : List Int) (xs1184 : List Int) (xs1185 : List Int) : Option Bool := s3_j6F (s3_l2 FUEL) xs1180 xs1181 n1285 b94 n1286 n1287 n1288 n1289 xs1182 xs1183 xs1184 xs1185
def s3_j5F (j6 : (List Int) → (List T_incipitlaw08_Op) → Int → Bool → Int → Int → Int → Int → (List Int) → (List Int) → (List Int) → (List Int) → Option Bool) (xs1166 : List Int) (xs1167 : List T_incipitlaw08_Op) (n1275 : Int) (n1276 : Int) (n1277 : Int) (n1278 : Int) (n1279 : Int) (xs1168 : List Int) (xs1169 : List Int) (xs1170 : List Int) (xs1171 : List Int) : Option Bool :=
  if n1275 ≠ 0 then
  j6 xs1166 xs1167 n1275 true n1276 n1277 n1278 n1279 xs1168 xs1169 xs1170 xs1171
  else
  j6 xs1166 xs1167 n1275 false n1276 n1277 n1278 n1279 xs1168 xs1169 xs1170 xs1171
def s3_j5 (xs1166 : List Int) (xs1167 : List T_incipitlaw08_Op) (n1275 : Int) (n1276 : Int) (n1277 : Int) (n1278 : Int) (n1279 : Int) (xs1168 : List Int) (xs1169 : List Int) (xs1170 : List Int) (xs1171 : List Int) : Option Bool := s3_j5F s3_j6 xs1166 xs1167 n1275 n1276 n1277 n1278 n1279 xs1168 xs1169 xs1170 xs1171
def s3_j1F (j2 : (List Int) → (List T_incipitlaw08_Op) → Int → Option Bool) (j5 : (List Int) → (List T_incipitlaw08_Op) → Int → Int → Int → Int → Int → (List Int) → (List Int) → (List Int) → (List Int) → Option Bool) (n1269 : Int) (xs1158 : List Int) (xs1159 : List T_incipitlaw08_Op) (b90 : Bool) : Option Bool :=
  if b90 = true then
  (s9).bind fun b91 =>
  some b91
  else
  (s10 n1269 xs1158).bind fun y231 =>
  match y231 with
  | .inl y232 =>
  j2 xs1158 xs1159 1
  | .inr y233 =>
  (some y233.2.2.1.1).bind fun n1270 =>
  (some y233.2.2.2.1.1).bind fun n1271 =>
  (some y233.2.2.2.2.1.1).bind fun n1272 =>
  (some y233.2.2.2.2.2.1.1).bind fun n1273 =>
  (some y233.2.2.2.2.2.2.1).bind fun xs1160 =>
  (some y233.2.2.2.2.2.2.2.1).bind fun xs1161 =>
  (some y233.2.2.2.2.2.2.2.2.1).bind fun xs1162 =>
  (some y233.2.2.2.2.2.2.2.2.2).bind fun xs1163 =>
  j5 xs1158 xs1159 0 n1270 n1271 n1272 n1273 xs1160 xs1161 xs1162 xs1163
def s3_j1 (n1269 : Int) (xs1158 : List Int) (xs1159 : List T_incipitlaw08_Op) (b90 : Bool) : Option Bool := s3_j1F s3_j2 s3_j5 n1269 xs1158 xs1159 b90
def s3F (j1 : Int → (List Int) → (List T_incipitlaw08_Op) → Bool → Option Bool) (n1268 : Int) (xs1156 : List Int) (xs1157 : List T_incipitlaw08_Op) : Option Bool :=
  (s9).bind fun b89 =>
  if ¬ b89 = true then
  j1 n1268 xs1156 xs1157 true
  else
  j1 n1268 xs1156 xs1157 (decide ((xs1156.length : Int) > 5000))
def s3 (n1268 : Int) (xs1156 : List Int) (xs1157 : List T_incipitlaw08_Op) : Option Bool := s3F s3_j1 n1268 xs1156 xs1157
end
end Go.Proofs.YtofhmhbffdoiaaaDoor
