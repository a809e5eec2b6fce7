/- What the functions compute, in plain words of data. -/
import Derived.Test.YtofhmhbffdoiaaaDoorH
namespace Go.Proofs.YtofhmhbffdoiaaaDoor
noncomputable section
open Go Go.SX Go.VX
set_option maxRecDepth 100000
set_option linter.unusedVariables false
/-! ### incipit/freemap.may -/
def s38F (n3 : Int) : Option Bool :=
  if n3 ≥ 8 then
  some (decide (n3 ≤ 2048))
  else
  some false
def s38 (n3 : Int) : Option Bool := s38F n3
/-! ### incipit/freemap.list -/
def s39_j1F (r_l1 : Int → Int → (List Int) → Int → Int → Option Bool) (n9 : Int) (n10 : Int) (xs5 : List Int) (n11 : Int) (n12 : Int) (b2 : Bool) : Option Bool :=
  if b2 = true then
  some false
  else
  r_l1 n9 n10 xs5 n11 (IntKind.i64.wrap (n12 + 1))
def s39_j1 (r_l1 : Int → Int → (List Int) → Int → Int → Option Bool) (n9 : Int) (n10 : Int) (xs5 : List Int) (n11 : Int) (n12 : Int) (b2 : Bool) : Option Bool := s39_j1F r_l1 n9 n10 xs5 n11 n12 b2
def s39_l1B (j1 : Int → Int → (List Int) → Int → Int → Bool → Option Bool) (n5 : Int) (n6 : Int) (xs4 : List Int) (n7 : Int) (n8 : Int) : Option Bool :=
  if n8 < n7 then
  (getI xs4 n8).bind fun x1 =>
  if x1 ≤ n6 then
  j1 n5 x1 xs4 n7 n8 true
  else
  j1 n5 x1 xs4 n7 n8 (decide (x1 ≥ n5))
  else
  some true
def s39_l1 (n_ : Nat) (n5 : Int) (n6 : Int) (xs4 : List Int) (n7 : Int) (n8 : Int) : Option Bool := iterL (fun (r_ : (Int × Int × (List Int) × Int × Int) → Option Bool) (x : (Int × Int × (List Int) × Int × Int)) => s39_l1B (s39_j1 (fun n5 n6 xs4 n7 n8 => r_ (n5, n6, xs4, n7, n8))) x.1 x.2.1 x.2.2.1 x.2.2.2.1 x.2.2.2.2) n_ (n5, n6, xs4, n7, n8)
def s39F (l1 : Int → Int → (List Int) → Int → Int → Option Bool) (n4 : Int) (xs3 : List Int) : Option Bool :=
  l1 n4 (-1) xs3 (xs3.length : Int) 0
def s39 (n4 : Int) (xs3 : List Int) : Option Bool := s39F (s39_l1 FUEL) n4 xs3
/-! ### incipit/extent.New -/
def s40_j1F (n15 : Int) (b5 : Bool) : Option ((Unit × Unit) ⊕ ((Unit × Unit) × ((Int × Unit) × List Int))) :=
  if b5 = true then
  some (.inl ((), ()))
  else
  if (64 : Int) ≠ 0 then
  (repI (IntKind.i64.wrap (Int.tdiv (IntKind.i64.wrap ((IntKind.i64.wrap (n15 + 64)) - 1)) 64)) (0 : Int) 8).bind fun xs7 =>
  some (.inr (((), ()), ((n15, ()), xs7)))
  else none
def s40_j1 (n15 : Int) (b5 : Bool) : Option ((Unit × Unit) ⊕ ((Unit × Unit) × ((Int × Unit) × List Int))) := s40_j1F n15 b5
def s40F (j1 : Int → Bool → Option ((Unit × Unit) ⊕ ((Unit × Unit) × ((Int × Unit) × List Int)))) (n14 : Int) : Option ((Unit × Unit) ⊕ ((Unit × Unit) × ((Int × Unit) × List Int))) :=
  if n14 < 1 then
  j1 n14 true
  else
  j1 n14 (decide (n14 > 2048))
def s40 (n14 : Int) : Option ((Unit × Unit) ⊕ ((Unit × Unit) × ((Int × Unit) × List Int))) := s40F s40_j1 n14
def s40_v2 (n14 : Int) : Option ((Unit × Unit) × ((Int × Unit) × List Int)) := (s40 n14).bind sndR
/-! ### (*incipit/extent.Set).none -/
def s72F (n24 : Int) (xs13 : List Int) : Option (Bool × ((Int × Unit) × List Int)) :=
  some (decide (n24 = 0), ((n24, ()), xs13))
def s72 (n24 : Int) (xs13 : List Int) : Option (Bool × ((Int × Unit) × List Int)) := s72F n24 xs13
/-! ### (*incipit/extent.Set).may -/
def s66_j1F (b7 : Bool) (n26 : Int) (xs15 : List Int) : Option (Int × ((Int × Unit) × List Int)) :=
  if b7 = true then
  some (1, ((n26, ()), xs15))
  else
  some (0, ((n26, ()), xs15))
def s66_j1 (b7 : Bool) (n26 : Int) (xs15 : List Int) : Option (Int × ((Int × Unit) × List Int)) := s66_j1F b7 n26 xs15
def s66F (j1 : Bool → Int → (List Int) → Option (Int × ((Int × Unit) × List Int))) (n22 : Int) (n23 : Int) (xs12 : List Int) : Option (Int × ((Int × Unit) × List Int)) :=
  (s72 n23 xs12).bind fun y2 =>
  (some y2.1).bind fun b6 =>
  (some y2.2.1.1).bind fun n25 =>
  (some y2.2.2).bind fun xs14 =>
  if b6 = true then
  some (2, ((n25, ()), xs14))
  else
  if n22 < 0 then
  j1 true n25 xs14
  else
  j1 (decide (n22 ≥ n25)) n25 xs14
def s66 (n22 : Int) (n23 : Int) (xs12 : List Int) : Option (Int × ((Int × Unit) × List Int)) := s66F s66_j1 n22 n23 xs12
/-! ### incipit/extent.bit -/
def s67F (n33 : Int) : Option Int :=
  if (64 : Int) ≠ 0 then
  if (0 : Int) ≤ (IntKind.u64.wrap (Int.tmod n33 64)) then
  some (shlI .u64 1 (IntKind.u64.wrap (Int.tmod n33 64)))
  else none
  else none
def s67 (n33 : Int) : Option Int := s67F n33
/-! ### (*incipit/extent.Set).Has -/
def s56F (n29 : Int) (n30 : Int) (xs17 : List Int) : Option (Bool × ((Int × Unit) × List Int)) :=
  (s66 n29 n30 xs17).bind fun y4 =>
  (some y4.1).bind fun n31 =>
  (some y4.2.1.1).bind fun n32 =>
  (some y4.2.2).bind fun xs18 =>
  if n31 = 0 then
  if (64 : Int) ≠ 0 then
  if 0 ≤ (IntKind.i64.wrap (Int.tdiv n29 64)) ∧ (IntKind.i64.wrap (Int.tdiv n29 64)) < (xs18.length : Int) then
  (getI xs18 (IntKind.i64.wrap (Int.tdiv n29 64))).bind fun x3 =>
  (s67 n29).bind fun n34 =>
  some (decide ((andI .u64 x3 n34) ≠ 0), ((n32, ()), xs18))
  else none
  else none
  else
  some (false, ((n32, ()), xs18))
def s56 (n29 : Int) (n30 : Int) (xs17 : List Int) : Option (Bool × ((Int × Unit) × List Int)) := s56F n29 n30 xs17
/-! ### (*incipit/extent.Set).Add -/
def s41F (n20 : Int) (n21 : Int) (xs11 : List Int) : Option (Int × ((Int × Unit) × List Int)) :=
  (s66 n20 n21 xs11).bind fun y3 =>
  (some y3.1).bind fun n27 =>
  (some y3.2.1.1).bind fun n28 =>
  (some y3.2.2).bind fun xs16 =>
  if n27 ≠ 0 then
  some (n27, ((n28, ()), xs16))
  else
  (s56 n20 n28 xs16).bind fun y5 =>
  (some y5.1).bind fun b8 =>
  (some y5.2.1.1).bind fun n35 =>
  (some y5.2.2).bind fun xs19 =>
  if b8 = true then
  some (70, ((n35, ()), xs19))
  else
  if (64 : Int) ≠ 0 then
  if 0 ≤ (IntKind.i64.wrap (Int.tdiv n20 64)) ∧ (IntKind.i64.wrap (Int.tdiv n20 64)) < (xs19.length : Int) then
  (getI xs19 (IntKind.i64.wrap (Int.tdiv n20 64))).bind fun x4 =>
  (s67 n20).bind fun n36 =>
  if 0 ≤ (IntKind.i64.wrap (Int.tdiv n20 64)) ∧ (IntKind.i64.wrap (Int.tdiv n20 64)) < (xs19.length : Int) then
  (setI xs19 (IntKind.i64.wrap (Int.tdiv n20 64)) (orI .u64 x4 n36)).bind fun xs20 =>
  some (0, ((n35, ()), xs20))
  else none
  else none
  else none
def s41 (n20 : Int) (n21 : Int) (xs11 : List Int) : Option (Int × ((Int × Unit) × List Int)) := s41F n20 n21 xs11
/-! ### slices.Clone[[]uint64,uint64] -/
def s75_v2F (xs30 : List Int) : Option (Unit × List Int) :=
  (appI ([] : List Int) xs30 8).bind fun xs31 =>
  some ((), xs31)
def s75_v2 (xs30 : List Int) : Option (Unit × List Int) := s75_v2F xs30
/-! ### slices.Clone[[]uint64,uint64] -/
def s75_v3F (xs32 : List Int) : Option (Unit × List Int) :=
  some ((), [])
def s75_v3 (xs32 : List Int) : Option (Unit × List Int) := s75_v3F xs32
/-! ### slices.Clone[[]uint64,uint64] -/
def s75 (xs : List Int) : Option (Unit × List Int) := if xs.length = 0 then s75_v3 [] else s75_v2 xs
/-! ### (*incipit/extent.Set).Clone -/
def s65F (n45 : Int) (xs26 : List Int) : Option ((Unit × ((Int × Unit) × List Int)) ⊕ (Unit × ((Int × Unit) × List Int × (Int × Unit) × List Int))) :=
  (s72 n45 xs26).bind fun y8 =>
  (some y8.1).bind fun b9 =>
  (some y8.2.1.1).bind fun n46 =>
  (some y8.2.2).bind fun xs27 =>
  if b9 = true then
  some (.inl ((), ((n46, ()), xs27)))
  else
  (s75 xs27).bind fun y9 =>
  (some y9.2).bind fun xs34 =>
  some (.inr ((), ((n46, ()), xs27, (n46, ()), xs34)))
def s65 (n45 : Int) (xs26 : List Int) : Option ((Unit × ((Int × Unit) × List Int)) ⊕ (Unit × ((Int × Unit) × List Int × (Int × Unit) × List Int))) := s65F n45 xs26
def s65_v2 (n45 : Int) (xs26 : List Int) : Option (Unit × ((Int × Unit) × List Int × (Int × Unit) × List Int)) := (s65 n45 xs26).bind sndR
/-! ### (*incipit/extent.Set).Not -/
def s42_j1F (n53 : Int) (xs41 : List Int) (n54 : Int) (xs42 : List Int) : Option (Unit × ((Int × Unit) × List Int × (Int × Unit) × List Int)) :=
  some ((), ((n53, ()), xs41, (n54, ()), xs42))
def s42_j1 (n53 : Int) (xs41 : List Int) (n54 : Int) (xs42 : List Int) : Option (Unit × ((Int × Unit) × List Int × (Int × Unit) × List Int)) := s42_j1F n53 xs41 n54 xs42
def s42_l1B (r_l1 : Int → Int → Int → (List Int) → Int → (List Int) → Option (Unit × ((Int × Unit) × List Int × (Int × Unit) × List Int))) (j1 : Int → (List Int) → Int → (List Int) → Option (Unit × ((Int × Unit) × List Int × (Int × Unit) × List Int))) (n49 : Int) (n50 : Int) (n51 : Int) (xs37 : List Int) (n52 : Int) (xs38 : List Int) : Option (Unit × ((Int × Unit) × List Int × (Int × Unit) × List Int)) :=
  if n50 < n49 then
  if 0 ≤ n50 ∧ n50 < (xs38.length : Int) then
  (getI xs38 n50).bind fun x6 =>
  if 0 ≤ n50 ∧ n50 < (xs38.length : Int) then
  (setI xs38 n50 (cplI .u64 x6)).bind fun xs39 =>
  r_l1 n49 (IntKind.i64.wrap (n50 + 1)) n51 xs37 n52 xs39
  else none
  else none
  else
  if (64 : Int) ≠ 0 then
  if (Int.tmod n52 64) > 0 then
  if 0 ≤ (IntKind.i64.wrap ((xs38.length : Int) - 1)) ∧ (IntKind.i64.wrap ((xs38.length : Int) - 1)) < (xs38.length : Int) then
  (getI xs38 (IntKind.i64.wrap ((xs38.length : Int) - 1))).bind fun x7 =>
  if (0 : Int) ≤ (IntKind.u64.wrap (Int.tmod n52 64)) then
  if 0 ≤ (IntKind.i64.wrap ((xs38.length : Int) - 1)) ∧ (IntKind.i64.wrap ((xs38.length : Int) - 1)) < (xs38.length : Int) then
  (setI xs38 (IntKind.i64.wrap ((xs38.length : Int) - 1)) (andI .u64 x7 (IntKind.u64.wrap ((shlI .u64 1 (IntKind.u64.wrap (Int.tmod n52 64))) - 1)))).bind fun xs40 =>
  j1 n51 xs37 n52 xs40
  else none
  else none
  else none
  else
  j1 n51 xs37 n52 xs38
  else none
def s42_l1 (n_ : Nat) (n49 : Int) (n50 : Int) (n51 : Int) (xs37 : List Int) (n52 : Int) (xs38 : List Int) : Option (Unit × ((Int × Unit) × List Int × (Int × Unit) × List Int)) := iterL (fun (r_ : ((Unit × Int × Int) × ((Int × Unit) × (List Int) × (Int × Unit) × (List Int))) → Option (Unit × ((Int × Unit) × List Int × (Int × Unit) × List Int))) (x : ((Unit × Int × Int) × ((Int × Unit) × (List Int) × (Int × Unit) × (List Int)))) => s42_l1B (fun n49 n50 n51 xs37 n52 xs38 => r_ (((), n49, n50), ((n51, ()), xs37, (n52, ()), xs38))) s42_j1 x.1.2.1 x.1.2.2 x.2.1.1 x.2.2.1 x.2.2.2.1.1 x.2.2.2.2) n_ (((), n49, n50), ((n51, ()), xs37, (n52, ()), xs38))
def s42F (l1 : Int → Int → Int → (List Int) → Int → (List Int) → Option (Unit × ((Int × Unit) × List Int × (Int × Unit) × List Int))) (n44 : Int) (xs25 : List Int) : Option (Unit × ((Int × Unit) × List Int × (Int × Unit) × List Int)) :=
  (s65_v2 n44 xs25).bind fun y10 =>
  (some y10.2.1.1).bind fun n47 =>
  (some y10.2.2.1).bind fun xs35 =>
  (some y10.2.2.2.1.1).bind fun n48 =>
  (some y10.2.2.2.2).bind fun xs36 =>
  l1 (xs36.length : Int) 0 n47 xs35 n48 xs36
def s42 (n44 : Int) (xs25 : List Int) : Option (Unit × ((Int × Unit) × List Int × (Int × Unit) × List Int)) := s42F (s42_l1 FUEL) n44 xs25
/-! ### (*incipit/extent.Set).Size -/
def s50F (n62 : Int) (xs50 : List Int) : Option (Int × ((Int × Unit) × List Int)) :=
  (s72 n62 xs50).bind fun y13 =>
  (some y13.1).bind fun b10 =>
  (some y13.2.1.1).bind fun n63 =>
  (some y13.2.2).bind fun xs51 =>
  if b10 = true then
  some (0, ((n63, ()), xs51))
  else
  some (n63, ((n63, ()), xs51))
def s50 (n62 : Int) (xs50 : List Int) : Option (Int × ((Int × Unit) × List Int)) := s50F n62 xs50
/-! ### (*incipit/freemap.Map).none -/
def s68F (n60 : Int) (n61 : Int) (xs48 : List Int) (xs49 : List Int) : Option (Unit × ((Unit × Unit × Unit × Unit) × (Int × Unit) × (Int × Unit) × List Int × List Int × (Int × Unit) × List Int)) :=
  (s50 n60 xs48).bind fun y14 =>
  (some y14.1).bind fun n64 =>
  (some y14.2.1.1).bind fun n65 =>
  (some y14.2.2).bind fun xs52 =>
  (s40_v2 n64).bind fun y15 =>
  (some y15.2.1.1).bind fun n66 =>
  (some y15.2.2).bind fun xs53 =>
  some ((), (((), (), (), ()), (n65, ()), (n61, ()), xs52, xs49, (n66, ()), xs53))
def s68 (n60 : Int) (n61 : Int) (xs48 : List Int) (xs49 : List Int) : Option (Unit × ((Unit × Unit × Unit × Unit) × (Int × Unit) × (Int × Unit) × List Int × List Int × (Int × Unit) × List Int)) := s68F n60 n61 xs48 xs49
/-! ### (*incipit/freemap.Map).settle -/
def s43F (n57 : Int) (xs45 : List Int) : Option (Unit × ((Unit × Unit × Unit × Unit) × (Int × Unit) × List Int × (Int × Unit) × (Int × Unit) × (Int × Unit) × List Int × List Int × List Int)) :=
  (s65_v2 n57 xs45).bind fun y12 =>
  (some y12.2.1.1).bind fun n58 =>
  (some y12.2.2.1).bind fun xs46 =>
  (some y12.2.2.2.1.1).bind fun n59 =>
  (some y12.2.2.2.2).bind fun xs47 =>
  (s68 n58 n59 xs46 xs47).bind fun y16 =>
  (some y16.2.2.1.1).bind fun n67 =>
  (some y16.2.2.2.1.1).bind fun n68 =>
  (some y16.2.2.2.2.1).bind fun xs54 =>
  (some y16.2.2.2.2.2.1).bind fun xs55 =>
  (some y16.2.2.2.2.2.2.1.1).bind fun n69 =>
  (some y16.2.2.2.2.2.2.2).bind fun xs56 =>
  (s68 n67 n68 xs54 xs55).bind fun y17 =>
  (some y17.2.2.1.1).bind fun n70 =>
  (some y17.2.2.2.1.1).bind fun n71 =>
  (some y17.2.2.2.2.1).bind fun xs57 =>
  (some y17.2.2.2.2.2.1).bind fun xs58 =>
  (some y17.2.2.2.2.2.2.1.1).bind fun n72 =>
  (some y17.2.2.2.2.2.2.2).bind fun xs59 =>
  some ((), (((), (), (), ()), (n70, ()), xs57, (n69, ()), (n72, ()), (n71, ()), xs56, xs59, xs58))
def s43 (n57 : Int) (xs45 : List Int) : Option (Unit × ((Unit × Unit × Unit × Unit) × (Int × Unit) × List Int × (Int × Unit) × (Int × Unit) × (Int × Unit) × List Int × List Int × List Int)) := s43F n57 xs45
/-! ### incipit/freemap.Open -/
def s10_l1B (r_l1 : (List Int) → Int → Int → Int → (List Int) → Option ((Unit × Unit) ⊕ ((Unit × Unit) × ((Unit × Unit × Unit × Unit) × (Int × Unit) × (Int × Unit) × (Int × Unit) × (Int × Unit) × List Int × List Int × List Int × List Int)))) (xs22 : List Int) (n39 : Int) (n40 : Int) (n41 : Int) (xs23 : List Int) : Option ((Unit × Unit) ⊕ ((Unit × Unit) × ((Unit × Unit × Unit × Unit) × (Int × Unit) × (Int × Unit) × (Int × Unit) × (Int × Unit) × List Int × List Int × List Int × List Int))) :=
  if n40 < n39 then
  (getI xs22 n40).bind fun x5 =>
  (s41 x5 n41 xs23).bind fun y7 =>
  (some y7.1).bind fun n42 =>
  (some y7.2.1.1).bind fun n43 =>
  (some y7.2.2).bind fun xs24 =>
  r_l1 xs22 n39 (IntKind.i64.wrap (n40 + 1)) n43 xs24
  else
  (s42 n41 xs23).bind fun y11 =>
  (some y11.2.1.1).bind fun n55 =>
  (some y11.2.2.1).bind fun xs43 =>
  (some y11.2.2.2.1.1).bind fun n56 =>
  (some y11.2.2.2.2).bind fun xs44 =>
  (s43 n56 xs44).bind fun y18 =>
  (some y18.2.2.1.1).bind fun n73 =>
  (some y18.2.2.2.1).bind fun xs60 =>
  (some y18.2.2.2.2.1.1).bind fun n74 =>
  (some y18.2.2.2.2.2.1.1).bind fun n75 =>
  (some y18.2.2.2.2.2.2.1.1).bind fun n76 =>
  (some y18.2.2.2.2.2.2.2.1).bind fun xs61 =>
  (some y18.2.2.2.2.2.2.2.2.1).bind fun xs62 =>
  (some y18.2.2.2.2.2.2.2.2.2).bind fun xs63 =>
  some (.inr (((), ()), (((), (), (), ()), (n73, ()), (n74, ()), (n75, ()), (n76, ()), xs60, xs61, xs62, xs63)))
def s10_l1 (n_ : Nat) (xs22 : List Int) (n39 : Int) (n40 : Int) (n41 : Int) (xs23 : List Int) : Option ((Unit × Unit) ⊕ ((Unit × Unit) × ((Unit × Unit × Unit × Unit) × (Int × Unit) × (Int × Unit) × (Int × Unit) × (Int × Unit) × List Int × List Int × List Int × List Int))) := iterL (fun (r_ : ((Unit × (List Int) × Int × Int) × ((Int × Unit) × (List Int))) → Option ((Unit × Unit) ⊕ ((Unit × Unit) × ((Unit × Unit × Unit × Unit) × (Int × Unit) × (Int × Unit) × (Int × Unit) × (Int × Unit) × List Int × List Int × List Int × List Int)))) (x : ((Unit × (List Int) × Int × Int) × ((Int × Unit) × (List Int)))) => s10_l1B (fun xs22 n39 n40 n41 xs23 => r_ (((), xs22, n39, n40), ((n41, ()), xs23))) x.1.2.1 x.1.2.2.1 x.1.2.2.2 x.2.1.1 x.2.2) n_ (((), xs22, n39, n40), ((n41, ()), xs23))
def s10_j1F (l1 : (List Int) → Int → Int → Int → (List Int) → Option ((Unit × Unit) ⊕ ((Unit × Unit) × ((Unit × Unit × Unit × Unit) × (Int × Unit) × (Int × Unit) × (Int × Unit) × (Int × Unit) × List Int × List Int × List Int × List Int)))) (n13 : Int) (xs6 : List Int) (b4 : Bool) : Option ((Unit × Unit) ⊕ ((Unit × Unit) × ((Unit × Unit × Unit × Unit) × (Int × Unit) × (Int × Unit) × (Int × Unit) × (Int × Unit) × List Int × List Int × List Int × List Int))) :=
  if b4 = true then
  some (.inl ((), ()))
  else
  (s40_v2 n13).bind fun y1 =>
  (some y1.2.1.1).bind fun n16 =>
  (some y1.2.2).bind fun xs8 =>
  l1 xs6 (xs6.length : Int) 0 n16 xs8
def s10_j1 (n13 : Int) (xs6 : List Int) (b4 : Bool) : Option ((Unit × Unit) ⊕ ((Unit × Unit) × ((Unit × Unit × Unit × Unit) × (Int × Unit) × (Int × Unit) × (Int × Unit) × (Int × Unit) × List Int × List Int × List Int × List Int))) := s10_j1F (s10_l1 FUEL) n13 xs6 b4
def s10F (j1 : Int → (List Int) → Bool → Option ((Unit × Unit) ⊕ ((Unit × Unit) × ((Unit × Unit × Unit × Unit) × (Int × Unit) × (Int × Unit) × (Int × Unit) × (Int × Unit) × List Int × List Int × List Int × List Int)))) (n2 : Int) (xs2 : List Int) : Option ((Unit × Unit) ⊕ ((Unit × Unit) × ((Unit × Unit × Unit × Unit) × (Int × Unit) × (Int × Unit) × (Int × Unit) × (Int × Unit) × List Int × List Int × List Int × List Int))) :=
  (s38 n2).bind fun b1 =>
  if ¬ b1 = true then
  j1 n2 xs2 true
  else
  (s39 n2 xs2).bind fun b3 =>
  j1 n2 xs2 (decide (¬ b3 = true))
def s10 (n2 : Int) (xs2 : List Int) : Option ((Unit × Unit) ⊕ ((Unit × Unit) × ((Unit × Unit × Unit × Unit) × (Int × Unit) × (Int × Unit) × (Int × Unit) × (Int × Unit) × List Int × List Int × List Int × List Int))) := s10F s10_j1 n2 xs2
/-! ### (*incipit/freemap.Map).made -/
def s45F : Option Unit :=
  some ()
def s45 : Option Unit := s45F
/-! ### (*incipit/freemap.Map).AllocRun -/
def s14F (n87 : Int) : Option (Unit × Unit) :=
  (s45).bind fun y22 =>
  some ((), ())
def s14 (n87 : Int) : Option (Unit × Unit) := s14F n87
/-! ### (*incipit/freemap.Map).Alloc -/
def s12F : Option (Unit × Unit) :=
  (s14 1).bind fun y23 =>
  some ((), ())
def s12 : Option (Unit × Unit) := s12F
/-! ### (*incipit/freemap.Map).made -/
def s45_v2F (n101 : Int) (n102 : Int) (n103 : Int) (n104 : Int) (xs84 : List Int) (xs85 : List Int) (xs86 : List Int) (xs87 : List Int) : Option (Unit × ((Unit × Unit × Unit × Unit) × (Int × Unit) × (Int × Unit) × (Int × Unit) × (Int × Unit) × List Int × List Int × List Int × List Int)) :=
  some ((), (((), (), (), ()), (n101, ()), (n102, ()), (n103, ()), (n104, ()), xs84, xs85, xs86, xs87))
def s45_v2 (n101 : Int) (n102 : Int) (n103 : Int) (n104 : Int) (xs84 : List Int) (xs85 : List Int) (xs86 : List Int) (xs87 : List Int) : Option (Unit × ((Unit × Unit × Unit × Unit) × (Int × Unit) × (Int × Unit) × (Int × Unit) × (Int × Unit) × List Int × List Int × List Int × List Int)) := s45_v2F n101 n102 n103 n104 xs84 xs85 xs86 xs87
/-! ### (*incipit/extent.Set).Runs -/
def s69F (n114 : Int) (xs96 : List Int) : Option ((Unit × Unit) × ((Int × Unit) × List Int × Unit)) :=
  some (((), ()), ((n114, ()), xs96, ()))
def s69 (n114 : Int) (xs96 : List Int) : Option ((Unit × Unit) × ((Int × Unit) × List Int × Unit)) := s69F n114 xs96
/-! ### math/bits.TrailingZeros64 -/
def s77F (n133 : Int) : Option Int :=
  if n133 = 0 then
  some 64
  else
  if (0 : Int) ≤ 58 then
  (getI TAB0 (shrI .u64 (IntKind.u64.wrap ((andI .u64 n133 (IntKind.u64.wrap (0 - n133))) * 285870213051353865)) 58)).bind fun x9 =>
  some (IntKind.i64.wrap x9)
  else none
def s77 (n133 : Int) : Option Int := s77F n133
/-! ### (*incipit/extent.Set).First -/
def s71_l1B (r_l1 : Int → Int → Int → (List Int) → Option (Int × ((Int × Unit) × List Int))) (n130 : Int) (n131 : Int) (n132 : Int) (xs108 : List Int) : Option (Int × ((Int × Unit) × List Int)) :=
  if n131 < (xs108.length : Int) then
  if 0 ≤ n131 ∧ n131 < (xs108.length : Int) then
  (getI xs108 n131).bind fun x8 =>
  if (andI .u64 x8 n130) ≠ 0 then
  (s77 (andI .u64 x8 n130)).bind fun n134 =>
  some ((IntKind.i64.wrap ((IntKind.i64.wrap (n131 * 64)) + n134)), ((n132, ()), xs108))
  else
  r_l1 18446744073709551615 (IntKind.i64.wrap (n131 + 1)) n132 xs108
  else none
  else
  some (-1, ((n132, ()), xs108))
def s71_l1 (n_ : Nat) (n130 : Int) (n131 : Int) (n132 : Int) (xs108 : List Int) : Option (Int × ((Int × Unit) × List Int)) := iterL (fun (r_ : ((Unit × Int × Int) × ((Int × Unit) × (List Int))) → Option (Int × ((Int × Unit) × List Int))) (x : ((Unit × Int × Int) × ((Int × Unit) × (List Int)))) => s71_l1B (fun n130 n131 n132 xs108 => r_ (((), n130, n131), ((n132, ()), xs108))) x.1.2.1 x.1.2.2 x.2.1.1 x.2.2) n_ (((), n130, n131), ((n132, ()), xs108))
def s71_j1F (l1 : Int → Int → Int → (List Int) → Option (Int × ((Int × Unit) × List Int))) (n128 : Int) (b14 : Bool) (n129 : Int) (xs107 : List Int) : Option (Int × ((Int × Unit) × List Int)) :=
  if b14 = true then
  some (-1, ((n129, ()), xs107))
  else
  if (64 : Int) ≠ 0 then
  if (0 : Int) ≤ (IntKind.u64.wrap (Int.tmod (if (0 : Int) > n128 then 0 else n128) 64)) then
  if (64 : Int) ≠ 0 then
  l1 (shlI .u64 18446744073709551615 (IntKind.u64.wrap (Int.tmod (if (0 : Int) > n128 then 0 else n128) 64))) (IntKind.i64.wrap (Int.tdiv (if (0 : Int) > n128 then 0 else n128) 64)) n129 xs107
  else none
  else none
  else none
def s71_j1 (n128 : Int) (b14 : Bool) (n129 : Int) (xs107 : List Int) : Option (Int × ((Int × Unit) × List Int)) := s71_j1F (s71_l1 FUEL) n128 b14 n129 xs107
def s71F (j1 : Int → Bool → Int → (List Int) → Option (Int × ((Int × Unit) × List Int))) (n125 : Int) (n126 : Int) (xs105 : List Int) : Option (Int × ((Int × Unit) × List Int)) :=
  (s72 n126 xs105).bind fun y29 =>
  (some y29.1).bind fun b13 =>
  (some y29.2.1.1).bind fun n127 =>
  (some y29.2.2).bind fun xs106 =>
  if b13 = false then
  j1 n125 (decide (n125 ≥ n127)) n127 xs106
  else
  j1 n125 true n127 xs106
def s71 (n125 : Int) (n126 : Int) (xs105 : List Int) : Option (Int × ((Int × Unit) × List Int)) := s71F s71_j1 n125 n126 xs105
/-! ### (*incipit/extent.Set).Runs$1 -/
def s76_j2F (r_l1 : Int → Int → (List Int) → Int → (List Int) → Option (Tr (Int × Int) (Unit × (Int × Unit) × List Int))) (n146 : Int) (b15 : Bool) (n147 : Int) (xs115 : List Int) (n148 : Int) (xs116 : List Int) : Option (Tr (Int × Int) (Unit × (Int × Unit) × List Int)) :=
  if b15 = true then
  some (.done ((), (n147, ()), xs115))
  else
  (s71 n146 n147 xs115).bind fun y32 =>
  (some y32.1).bind fun n149 =>
  (some y32.2.1.1).bind fun n150 =>
  (some y32.2.2).bind fun xs117 =>
  r_l1 n149 n150 xs117 n148 xs116
def s76_j2 (r_l1 : Int → Int → (List Int) → Int → (List Int) → Option (Tr (Int × Int) (Unit × (Int × Unit) × List Int))) (n146 : Int) (b15 : Bool) (n147 : Int) (xs115 : List Int) (n148 : Int) (xs116 : List Int) : Option (Tr (Int × Int) (Unit × (Int × Unit) × List Int)) := s76_j2F r_l1 n146 b15 n147 xs115 n148 xs116
def s76_j1F (j2 : Int → Bool → Int → (List Int) → Int → (List Int) → Option (Tr (Int × Int) (Unit × (Int × Unit) × List Int))) (n142 : Int) (n143 : Int) (n144 : Int) (xs113 : List Int) (n145 : Int) (xs114 : List Int) : Option (Tr (Int × Int) (Unit × (Int × Unit) × List Int)) :=
  consT (n142, (IntKind.i64.wrap (n143 - n142))) (
  j2 n143 true n144 xs113 n145 xs114)
  (j2 n143 false n144 xs113 n145 xs114)
def s76_j1 (r_l1 : Int → Int → (List Int) → Int → (List Int) → Option (Tr (Int × Int) (Unit × (Int × Unit) × List Int))) (n142 : Int) (n143 : Int) (n144 : Int) (xs113 : List Int) (n145 : Int) (xs114 : List Int) : Option (Tr (Int × Int) (Unit × (Int × Unit) × List Int)) := s76_j1F (s76_j2 r_l1) n142 n143 n144 xs113 n145 xs114
def s76_l1B (j1 : Int → Int → Int → (List Int) → Int → (List Int) → Option (Tr (Int × Int) (Unit × (Int × Unit) × List Int))) (n137 : Int) (n138 : Int) (xs110 : List Int) (n139 : Int) (xs111 : List Int) : Option (Tr (Int × Int) (Unit × (Int × Unit) × List Int)) :=
  if n137 ≥ 0 then
  (s71 n137 n139 xs111).bind fun y31 =>
  (some y31.1).bind fun n140 =>
  (some y31.2.1.1).bind fun n141 =>
  (some y31.2.2).bind fun xs112 =>
  if n140 < 0 then
  j1 n137 n138 n138 xs110 n141 xs112
  else
  j1 n137 n140 n138 xs110 n141 xs112
  else
  some (.done ((), (n138, ()), xs110))
def s76_l1 (n_ : Nat) (n137 : Int) (n138 : Int) (xs110 : List Int) (n139 : Int) (xs111 : List Int) : Option (Tr (Int × Int) (Unit × (Int × Unit) × List Int)) := iterL (fun (r_ : ((Unit × Unit × Unit × Int) × (Unit × (Int × Unit) × (List Int) × (Int × Unit) × (List Int))) → Option (Tr (Int × Int) (Unit × (Int × Unit) × List Int))) (x : ((Unit × Unit × Unit × Int) × (Unit × (Int × Unit) × (List Int) × (Int × Unit) × (List Int)))) => s76_l1B (s76_j1 (fun n137 n138 xs110 n139 xs111 => r_ (((), (), (), n137), ((), (n138, ()), xs110, (n139, ()), xs111)))) x.1.2.2.2 x.2.2.1.1 x.2.2.2.1 x.2.2.2.2.1.1 x.2.2.2.2.2) n_ (((), (), (), n137), ((), (n138, ()), xs110, (n139, ()), xs111))
def s76F (l1 : Int → Int → (List Int) → Int → (List Int) → Option (Tr (Int × Int) (Unit × (Int × Unit) × List Int))) (n122 : Int) (xs102 : List Int) : Option (Tr (Int × Int) (Unit × (Int × Unit) × List Int)) :=
  (s42 n122 xs102).bind fun y28 =>
  (some y28.2.1.1).bind fun n123 =>
  (some y28.2.2.1).bind fun xs103 =>
  (some y28.2.2.2.1.1).bind fun n124 =>
  (some y28.2.2.2.2).bind fun xs104 =>
  (s71 0 n123 xs103).bind fun y30 =>
  (some y30.1).bind fun n135 =>
  (some y30.2.1.1).bind fun n136 =>
  (some y30.2.2).bind fun xs109 =>
  l1 n135 n136 xs109 n124 xs104
def s76 (n122 : Int) (xs102 : List Int) : Option (Tr (Int × Int) (Unit × (Int × Unit) × List Int)) := s76F (s76_l1 FUEL) n122 xs102
/-! ### (*incipit/freemap.Map).row -/
def s46_j2F (n165 : Int) (n166 : Int) (n167 : Int) (n168 : Int) (xs126 : List Int) (xs127 : List Int) (xs128 : List Int) (xs129 : List Int) (n169 : Int) : Option (Int × ((Unit × Unit × Unit × Unit) × (Int × Unit) × (Int × Unit) × (Int × Unit) × (Int × Unit) × List Int × List Int × List Int × List Int)) :=
  some (n169, (((), (), (), ()), (n165, ()), (n166, ()), (n167, ()), (n168, ()), xs126, xs127, xs128, xs129))
def s46_j2 (n165 : Int) (n166 : Int) (n167 : Int) (n168 : Int) (xs126 : List Int) (xs127 : List Int) (xs128 : List Int) (xs129 : List Int) (n169 : Int) : Option (Int × ((Unit × Unit × Unit × Unit) × (Int × Unit) × (Int × Unit) × (Int × Unit) × (Int × Unit) × List Int × List Int × List Int × List Int)) := s46_j2F n165 n166 n167 n168 xs126 xs127 xs128 xs129 n169
def s46_r1B (r_r1 : Int → Int → Int → (List Int) → (List Int) → (List Int) → Int → Int → Option (Int × ((Unit × Unit × Unit × Unit) × (Int × Unit) × (Int × Unit) × (Int × Unit) × (Int × Unit) × List Int × List Int × List Int × List Int))) (j2 : Int → Int → Int → Int → (List Int) → (List Int) → (List Int) → (List Int) → Int → Option (Int × ((Unit × Unit × Unit × Unit) × (Int × Unit) × (Int × Unit) × (Int × Unit) × (Int × Unit) × List Int × List Int × List Int × List Int))) (n157 : Int) (n158 : Int) (n156 : Int) (xs121 : List Int) (n151 : Int) (n152 : Int) (n153 : Int) (xs118 : List Int) (xs119 : List Int) (xs120 : List Int) (n154 : Int) (n155 : Int) : Option (Int × ((Unit × Unit × Unit × Unit) × (Int × Unit) × (Int × Unit) × (Int × Unit) × (Int × Unit) × List Int × List Int × List Int × List Int)) :=
  if n158 < n154 then
  r_r1 n151 n152 n153 xs118 xs119 xs120 n154 n155
  else
  j2 n156 n151 n152 n153 xs121 xs118 xs119 xs120 n157
def s46_r1D (j2 : Int → Int → Int → Int → (List Int) → (List Int) → (List Int) → (List Int) → Int → Option (Int × ((Unit × Unit × Unit × Unit) × (Int × Unit) × (Int × Unit) × (Int × Unit) × (Int × Unit) × List Int × List Int × List Int × List Int))) (n159 : Int) (xs122 : List Int) (n160 : Int) (n161 : Int) (n162 : Int) (xs123 : List Int) (xs124 : List Int) (xs125 : List Int) (n163 : Int) (n164 : Int) : Option (Int × ((Unit × Unit × Unit × Unit) × (Int × Unit) × (Int × Unit) × (Int × Unit) × (Int × Unit) × List Int × List Int × List Int × List Int)) :=
  j2 n159 n160 n161 n162 xs122 xs123 xs124 xs125 n164
def s46_r1 (tr_ : (Tr (Int × Int) (Unit × (Int × Unit) × (List Int)))) (n151 : Int) (n152 : Int) (n153 : Int) (xs118 : List Int) (xs119 : List Int) (xs120 : List Int) (n154 : Int) (n155 : Int) : Option (Int × ((Unit × Unit × Unit × Unit) × (Int × Unit) × (Int × Unit) × (Int × Unit) × (Int × Unit) × List Int × List Int × List Int × List Int)) := iterT (fun (d_ : (Unit × (Int × Unit) × (List Int))) (y_ : ((Unit × Unit × Unit × Unit) × (Int × Unit) × (Int × Unit) × (Int × Unit) × (List Int) × (List Int) × (List Int) × Int × Int)) => s46_r1D s46_j2 d_.2.1.1 d_.2.2 y_.2.1.1 y_.2.2.1.1 y_.2.2.2.1.1 y_.2.2.2.2.1 y_.2.2.2.2.2.1 y_.2.2.2.2.2.2.1 y_.2.2.2.2.2.2.2.1 y_.2.2.2.2.2.2.2.2) (fun (v_ : (Int × Int)) (t_ : (Unit × (Int × Unit) × (List Int))) (r_ : ((Unit × Unit × Unit × Unit) × (Int × Unit) × (Int × Unit) × (Int × Unit) × (List Int) × (List Int) × (List Int) × Int × Int) → Option (Int × ((Unit × Unit × Unit × Unit) × (Int × Unit) × (Int × Unit) × (Int × Unit) × (Int × Unit) × List Int × List Int × List Int × List Int))) (y_ : ((Unit × Unit × Unit × Unit) × (Int × Unit) × (Int × Unit) × (Int × Unit) × (List Int) × (List Int) × (List Int) × Int × Int)) => s46_r1B (fun n151 n152 n153 xs118 xs119 xs120 n154 n155 => r_ (((), (), (), ()), (n151, ()), (n152, ()), (n153, ()), xs118, xs119, xs120, n154, n155)) s46_j2 v_.1 v_.2 t_.2.1.1 t_.2.2 y_.2.1.1 y_.2.2.1.1 y_.2.2.2.1.1 y_.2.2.2.2.1 y_.2.2.2.2.2.1 y_.2.2.2.2.2.2.1 y_.2.2.2.2.2.2.2.1 y_.2.2.2.2.2.2.2.2) tr_ (((), (), (), ()), (n151, ()), (n152, ()), (n153, ()), xs118, xs119, xs120, n154, n155)
def s46_j1F (r1 : (Tr (Int × Int) (Unit × (Int × Unit) × (List Int))) → Int → Int → Int → (List Int) → (List Int) → (List Int) → Int → Int → Option (Int × ((Unit × Unit × Unit × Unit) × (Int × Unit) × (Int × Unit) × (Int × Unit) × (Int × Unit) × List Int × List Int × List Int × List Int))) (n116 : Int) (n117 : Int) (n118 : Int) (n119 : Int) (xs98 : List Int) (xs99 : List Int) (xs100 : List Int) (xs101 : List Int) (n120 : Int) (n121 : Int) : Option (Int × ((Unit × Unit × Unit × Unit) × (Int × Unit) × (Int × Unit) × (Int × Unit) × (Int × Unit) × List Int × List Int × List Int × List Int)) :=
  (s76 n116 xs98).bind fun tr1 =>
  r1 tr1 n117 n118 n119 xs99 xs100 xs101 n120 n121
def s46_j1 (n116 : Int) (n117 : Int) (n118 : Int) (n119 : Int) (xs98 : List Int) (xs99 : List Int) (xs100 : List Int) (xs101 : List Int) (n120 : Int) (n121 : Int) : Option (Int × ((Unit × Unit × Unit × Unit) × (Int × Unit) × (Int × Unit) × (Int × Unit) × (Int × Unit) × List Int × List Int × List Int × List Int)) := s46_j1F s46_r1 n116 n117 n118 n119 xs98 xs99 xs100 xs101 n120 n121
def s46F (j1 : Int → Int → Int → Int → (List Int) → (List Int) → (List Int) → (List Int) → Int → Int → Option (Int × ((Unit × Unit × Unit × Unit) × (Int × Unit) × (Int × Unit) × (Int × Unit) × (Int × Unit) × List Int × List Int × List Int × List Int))) (n109 : Int) (n110 : Int) (n111 : Int) (n112 : Int) (n113 : Int) (xs92 : List Int) (xs93 : List Int) (xs94 : List Int) (xs95 : List Int) : Option (Int × ((Unit × Unit × Unit × Unit) × (Int × Unit) × (Int × Unit) × (Int × Unit) × (Int × Unit) × List Int × List Int × List Int × List Int)) :=
  (s69 n110 xs92).bind fun y27 =>
  (some y27.2.1.1).bind fun n115 =>
  (some y27.2.2.1).bind fun xs97 =>
  j1 n115 n111 n112 n113 xs97 xs93 xs94 xs95 n109 (-1)
def s46 (n109 : Int) (n110 : Int) (n111 : Int) (n112 : Int) (n113 : Int) (xs92 : List Int) (xs93 : List Int) (xs94 : List Int) (xs95 : List Int) : Option (Int × ((Unit × Unit × Unit × Unit) × (Int × Unit) × (Int × Unit) × (Int × Unit) × (Int × Unit) × List Int × List Int × List Int × List Int)) := s46F s46_j1 n109 n110 n111 n112 n113 xs92 xs93 xs94 xs95
/-! ### (*incipit/extent.Set).Drop -/
def s48F (n188 : Int) (n189 : Int) (xs142 : List Int) : Option (Int × ((Int × Unit) × List Int)) :=
  (s66 n188 n189 xs142).bind fun y34 =>
  (some y34.1).bind fun n190 =>
  (some y34.2.1.1).bind fun n191 =>
  (some y34.2.2).bind fun xs143 =>
  if n190 ≠ 0 then
  some (n190, ((n191, ()), xs143))
  else
  (s56 n188 n191 xs143).bind fun y35 =>
  (some y35.1).bind fun b16 =>
  (some y35.2.1.1).bind fun n192 =>
  (some y35.2.2).bind fun xs144 =>
  if ¬ b16 = true then
  some (4, ((n192, ()), xs144))
  else
  if (64 : Int) ≠ 0 then
  if 0 ≤ (IntKind.i64.wrap (Int.tdiv n188 64)) ∧ (IntKind.i64.wrap (Int.tdiv n188 64)) < (xs144.length : Int) then
  (getI xs144 (IntKind.i64.wrap (Int.tdiv n188 64))).bind fun x10 =>
  (s67 n188).bind fun n193 =>
  if 0 ≤ (IntKind.i64.wrap (Int.tdiv n188 64)) ∧ (IntKind.i64.wrap (Int.tdiv n188 64)) < (xs144.length : Int) then
  (setI xs144 (IntKind.i64.wrap (Int.tdiv n188 64)) (andNotI .u64 x10 n193)).bind fun xs145 =>
  some (0, ((n192, ()), xs145))
  else none
  else none
  else none
def s48 (n188 : Int) (n189 : Int) (xs142 : List Int) : Option (Int × ((Int × Unit) × List Int)) := s48F n188 n189 xs142
/-! ### (*incipit/freemap.Map).take -/
def s47_l1B (r_l1 : Int → Int → Int → Int → Int → Int → Int → (List Int) → (List Int) → (List Int) → (List Int) → Option (Unit × ((Unit × Unit × Unit × Unit) × (Int × Unit) × (Int × Unit) × (Int × Unit) × (Int × Unit) × List Int × List Int × List Int × List Int))) (n181 : Int) (n182 : Int) (n183 : Int) (n184 : Int) (n185 : Int) (n186 : Int) (n187 : Int) (xs138 : List Int) (xs139 : List Int) (xs140 : List Int) (xs141 : List Int) : Option (Unit × ((Unit × Unit × Unit × Unit) × (Int × Unit) × (Int × Unit) × (Int × Unit) × (Int × Unit) × List Int × List Int × List Int × List Int)) :=
  if n183 < n182 then
  (s48 (IntKind.i64.wrap (n181 + n183)) n184 xs138).bind fun y36 =>
  (some y36.1).bind fun n194 =>
  (some y36.2.1.1).bind fun n195 =>
  (some y36.2.2).bind fun xs146 =>
  (s41 (IntKind.i64.wrap (n181 + n183)) n186 xs140).bind fun y37 =>
  (some y37.1).bind fun n196 =>
  (some y37.2.1.1).bind fun n197 =>
  (some y37.2.2).bind fun xs147 =>
  r_l1 n181 n182 (IntKind.i64.wrap (n183 + 1)) n195 n185 n197 n187 xs146 xs139 xs147 xs141
  else
  some ((), (((), (), (), ()), (n184, ()), (n185, ()), (n186, ()), (n187, ()), xs138, xs139, xs140, xs141))
def s47_l1 (n_ : Nat) (n181 : Int) (n182 : Int) (n183 : Int) (n184 : Int) (n185 : Int) (n186 : Int) (n187 : Int) (xs138 : List Int) (xs139 : List Int) (xs140 : List Int) (xs141 : List Int) : Option (Unit × ((Unit × Unit × Unit × Unit) × (Int × Unit) × (Int × Unit) × (Int × Unit) × (Int × Unit) × List Int × List Int × List Int × List Int)) := iterL (fun (r_ : ((Unit × Int × Int × Int) × ((Unit × Unit × Unit × Unit) × (Int × Unit) × (Int × Unit) × (Int × Unit) × (Int × Unit) × (List Int) × (List Int) × (List Int) × (List Int))) → Option (Unit × ((Unit × Unit × Unit × Unit) × (Int × Unit) × (Int × Unit) × (Int × Unit) × (Int × Unit) × List Int × List Int × List Int × List Int))) (x : ((Unit × Int × Int × Int) × ((Unit × Unit × Unit × Unit) × (Int × Unit) × (Int × Unit) × (Int × Unit) × (Int × Unit) × (List Int) × (List Int) × (List Int) × (List Int)))) => s47_l1B (fun n181 n182 n183 n184 n185 n186 n187 xs138 xs139 xs140 xs141 => r_ (((), n181, n182, n183), (((), (), (), ()), (n184, ()), (n185, ()), (n186, ()), (n187, ()), xs138, xs139, xs140, xs141))) x.1.2.1 x.1.2.2.1 x.1.2.2.2 x.2.2.1.1 x.2.2.2.1.1 x.2.2.2.2.1.1 x.2.2.2.2.2.1.1 x.2.2.2.2.2.2.1 x.2.2.2.2.2.2.2.1 x.2.2.2.2.2.2.2.2.1 x.2.2.2.2.2.2.2.2.2) n_ (((), n181, n182, n183), (((), (), (), ()), (n184, ()), (n185, ()), (n186, ()), (n187, ()), xs138, xs139, xs140, xs141))
def s47F (l1 : Int → Int → Int → Int → Int → Int → Int → (List Int) → (List Int) → (List Int) → (List Int) → Option (Unit × ((Unit × Unit × Unit × Unit) × (Int × Unit) × (Int × Unit) × (Int × Unit) × (Int × Unit) × List Int × List Int × List Int × List Int))) (n175 : Int) (n176 : Int) (n177 : Int) (n178 : Int) (n179 : Int) (n180 : Int) (xs134 : List Int) (xs135 : List Int) (xs136 : List Int) (xs137 : List Int) : Option (Unit × ((Unit × Unit × Unit × Unit) × (Int × Unit) × (Int × Unit) × (Int × Unit) × (Int × Unit) × List Int × List Int × List Int × List Int)) :=
  l1 n175 n176 0 n177 n178 n179 n180 xs134 xs135 xs136 xs137
def s47 (n175 : Int) (n176 : Int) (n177 : Int) (n178 : Int) (n179 : Int) (n180 : Int) (xs134 : List Int) (xs135 : List Int) (xs136 : List Int) (xs137 : List Int) : Option (Unit × ((Unit × Unit × Unit × Unit) × (Int × Unit) × (Int × Unit) × (Int × Unit) × (Int × Unit) × List Int × List Int × List Int × List Int)) := s47F (s47_l1 FUEL) n175 n176 n177 n178 n179 n180 xs134 xs135 xs136 xs137
/-! ### (*incipit/freemap.Map).AllocRun -/
def s14_v2F (n96 : Int) (n97 : Int) (n98 : Int) (n99 : Int) (n100 : Int) (xs80 : List Int) (xs81 : List Int) (xs82 : List Int) (xs83 : List Int) : Option ((Int × Int) × ((Unit × Unit × Unit × Unit) × (Int × Unit) × (Int × Unit) × (Int × Unit) × (Int × Unit) × List Int × List Int × List Int × List Int)) :=
  (s45_v2 n97 n98 n99 n100 xs80 xs81 xs82 xs83).bind fun y26 =>
  (some y26.2.2.1.1).bind fun n105 =>
  (some y26.2.2.2.1.1).bind fun n106 =>
  (some y26.2.2.2.2.1.1).bind fun n107 =>
  (some y26.2.2.2.2.2.1.1).bind fun n108 =>
  (some y26.2.2.2.2.2.2.1).bind fun xs88 =>
  (some y26.2.2.2.2.2.2.2.1).bind fun xs89 =>
  (some y26.2.2.2.2.2.2.2.2.1).bind fun xs90 =>
  (some y26.2.2.2.2.2.2.2.2.2).bind fun xs91 =>
  if n96 < 1 then
  some ((0, 1), (((), (), (), ()), (n105, ()), (n106, ()), (n107, ()), (n108, ()), xs88, xs89, xs90, xs91))
  else
  (s46 n96 n105 n106 n107 n108 xs88 xs89 xs90 xs91).bind fun y33 =>
  (some y33.1).bind fun n170 =>
  (some y33.2.2.1.1).bind fun n171 =>
  (some y33.2.2.2.1.1).bind fun n172 =>
  (some y33.2.2.2.2.1.1).bind fun n173 =>
  (some y33.2.2.2.2.2.1.1).bind fun n174 =>
  (some y33.2.2.2.2.2.2.1).bind fun xs130 =>
  (some y33.2.2.2.2.2.2.2.1).bind fun xs131 =>
  (some y33.2.2.2.2.2.2.2.2.1).bind fun xs132 =>
  (some y33.2.2.2.2.2.2.2.2.2).bind fun xs133 =>
  if n170 < 0 then
  some ((0, 6), (((), (), (), ()), (n171, ()), (n172, ()), (n173, ()), (n174, ()), xs130, xs131, xs132, xs133))
  else
  (s47 n170 n96 n171 n172 n173 n174 xs130 xs131 xs132 xs133).bind fun y38 =>
  (some y38.2.2.1.1).bind fun n198 =>
  (some y38.2.2.2.1.1).bind fun n199 =>
  (some y38.2.2.2.2.1.1).bind fun n200 =>
  (some y38.2.2.2.2.2.1.1).bind fun n201 =>
  (some y38.2.2.2.2.2.2.1).bind fun xs148 =>
  (some y38.2.2.2.2.2.2.2.1).bind fun xs149 =>
  (some y38.2.2.2.2.2.2.2.2.1).bind fun xs150 =>
  (some y38.2.2.2.2.2.2.2.2.2).bind fun xs151 =>
  some ((n170, 0), (((), (), (), ()), (n198, ()), (n199, ()), (n200, ()), (n201, ()), xs148, xs149, xs150, xs151))
def s14_v2 (n96 : Int) (n97 : Int) (n98 : Int) (n99 : Int) (n100 : Int) (xs80 : List Int) (xs81 : List Int) (xs82 : List Int) (xs83 : List Int) : Option ((Int × Int) × ((Unit × Unit × Unit × Unit) × (Int × Unit) × (Int × Unit) × (Int × Unit) × (Int × Unit) × List Int × List Int × List Int × List Int)) := s14_v2F n96 n97 n98 n99 n100 xs80 xs81 xs82 xs83
/-! ### (*incipit/freemap.Map).Alloc -/
def s12_v2F (n92 : Int) (n93 : Int) (n94 : Int) (n95 : Int) (xs76 : List Int) (xs77 : List Int) (xs78 : List Int) (xs79 : List Int) : Option ((Int × Int) × ((Unit × Unit × Unit × Unit) × (Int × Unit) × (Int × Unit) × (Int × Unit) × (Int × Unit) × List Int × List Int × List Int × List Int)) :=
  (s14_v2 1 n92 n93 n94 n95 xs76 xs77 xs78 xs79).bind fun y39 =>
  (some y39.1.1).bind fun n202 =>
  (some y39.1.2).bind fun n203 =>
  (some y39.2.2.1.1).bind fun n204 =>
  (some y39.2.2.2.1.1).bind fun n205 =>
  (some y39.2.2.2.2.1.1).bind fun n206 =>
  (some y39.2.2.2.2.2.1.1).bind fun n207 =>
  (some y39.2.2.2.2.2.2.1).bind fun xs152 =>
  (some y39.2.2.2.2.2.2.2.1).bind fun xs153 =>
  (some y39.2.2.2.2.2.2.2.2.1).bind fun xs154 =>
  (some y39.2.2.2.2.2.2.2.2.2).bind fun xs155 =>
  some ((n202, n203), (((), (), (), ()), (n204, ()), (n205, ()), (n206, ()), (n207, ()), xs152, xs153, xs154, xs155))
def s12_v2 (n92 : Int) (n93 : Int) (n94 : Int) (n95 : Int) (xs76 : List Int) (xs77 : List Int) (xs78 : List Int) (xs79 : List Int) : Option ((Int × Int) × ((Unit × Unit × Unit × Unit) × (Int × Unit) × (Int × Unit) × (Int × Unit) × (Int × Unit) × List Int × List Int × List Int × List Int)) := s12_v2F n92 n93 n94 n95 xs76 xs77 xs78 xs79
/-! ### (*incipit/freemap.Map).Has -/
def s32F (n229 : Int) (n230 : Int) (n231 : Int) (n232 : Int) (n233 : Int) (xs172 : List Int) (xs173 : List Int) (xs174 : List Int) (xs175 : List Int) : Option (Bool × ((Unit × Unit × Unit × Unit) × (Int × Unit) × (Int × Unit) × (Int × Unit) × (Int × Unit) × List Int × List Int × List Int × List Int)) :=
  (s45_v2 n230 n231 n232 n233 xs172 xs173 xs174 xs175).bind fun y43 =>
  (some y43.2.2.1.1).bind fun n234 =>
  (some y43.2.2.2.1.1).bind fun n235 =>
  (some y43.2.2.2.2.1.1).bind fun n236 =>
  (some y43.2.2.2.2.2.1.1).bind fun n237 =>
  (some y43.2.2.2.2.2.2.1).bind fun xs176 =>
  (some y43.2.2.2.2.2.2.2.1).bind fun xs177 =>
  (some y43.2.2.2.2.2.2.2.2.1).bind fun xs178 =>
  (some y43.2.2.2.2.2.2.2.2.2).bind fun xs179 =>
  if n229 ≥ 0 then
  (s50 n234 xs176).bind fun y44 =>
  (some y44.1).bind fun n238 =>
  (some y44.2.1.1).bind fun n239 =>
  (some y44.2.2).bind fun xs180 =>
  if n229 < n238 then
  (s56 n229 n239 xs180).bind fun y45 =>
  (some y45.1).bind fun b17 =>
  (some y45.2.1.1).bind fun n240 =>
  (some y45.2.2).bind fun xs181 =>
  if ¬ b17 = true then
  (s56 n229 n235 xs177).bind fun y46 =>
  (some y46.1).bind fun b18 =>
  (some y46.2.1.1).bind fun n241 =>
  (some y46.2.2).bind fun xs182 =>
  some (decide (¬ b18 = true), (((), (), (), ()), (n240, ()), (n241, ()), (n236, ()), (n237, ()), xs181, xs182, xs178, xs179))
  else
  some (false, (((), (), (), ()), (n240, ()), (n235, ()), (n236, ()), (n237, ()), xs181, xs177, xs178, xs179))
  else
  some (false, (((), (), (), ()), (n239, ()), (n235, ()), (n236, ()), (n237, ()), xs180, xs177, xs178, xs179))
  else
  some (false, (((), (), (), ()), (n234, ()), (n235, ()), (n236, ()), (n237, ()), xs176, xs177, xs178, xs179))
def s32 (n229 : Int) (n230 : Int) (n231 : Int) (n232 : Int) (n233 : Int) (xs172 : List Int) (xs173 : List Int) (xs174 : List Int) (xs175 : List Int) : Option (Bool × ((Unit × Unit × Unit × Unit) × (Int × Unit) × (Int × Unit) × (Int × Unit) × (Int × Unit) × List Int × List Int × List Int × List Int)) := s32F n229 n230 n231 n232 n233 xs172 xs173 xs174 xs175
/-! ### (*incipit/freemap.Map).Free -/
def s15F (n220 : Int) (n221 : Int) (n222 : Int) (n223 : Int) (n224 : Int) (xs164 : List Int) (xs165 : List Int) (xs166 : List Int) (xs167 : List Int) : Option (Int × ((Unit × Unit × Unit × Unit) × (Int × Unit) × (Int × Unit) × (Int × Unit) × (Int × Unit) × List Int × List Int × List Int × List Int)) :=
  (s45_v2 n221 n222 n223 n224 xs164 xs165 xs166 xs167).bind fun y42 =>
  (some y42.2.2.1.1).bind fun n225 =>
  (some y42.2.2.2.1.1).bind fun n226 =>
  (some y42.2.2.2.2.1.1).bind fun n227 =>
  (some y42.2.2.2.2.2.1.1).bind fun n228 =>
  (some y42.2.2.2.2.2.2.1).bind fun xs168 =>
  (some y42.2.2.2.2.2.2.2.1).bind fun xs169 =>
  (some y42.2.2.2.2.2.2.2.2.1).bind fun xs170 =>
  (some y42.2.2.2.2.2.2.2.2.2).bind fun xs171 =>
  (s32 n220 n225 n226 n227 n228 xs168 xs169 xs170 xs171).bind fun y47 =>
  (some y47.1).bind fun b19 =>
  (some y47.2.2.1.1).bind fun n242 =>
  (some y47.2.2.2.1.1).bind fun n243 =>
  (some y47.2.2.2.2.1.1).bind fun n244 =>
  (some y47.2.2.2.2.2.1.1).bind fun n245 =>
  (some y47.2.2.2.2.2.2.1).bind fun xs183 =>
  (some y47.2.2.2.2.2.2.2.1).bind fun xs184 =>
  (some y47.2.2.2.2.2.2.2.2.1).bind fun xs185 =>
  (some y47.2.2.2.2.2.2.2.2.2).bind fun xs186 =>
  if ¬ b19 = true then
  some (4, (((), (), (), ()), (n242, ()), (n243, ()), (n244, ()), (n245, ()), xs183, xs184, xs185, xs186))
  else
  (s48 n220 n244 xs185).bind fun y48 =>
  (some y48.1).bind fun n246 =>
  (some y48.2.1.1).bind fun n247 =>
  (some y48.2.2).bind fun xs187 =>
  if n246 = 0 then
  (s41 n220 n242 xs183).bind fun y49 =>
  (some y49.1).bind fun n248 =>
  (some y49.2.1.1).bind fun n249 =>
  (some y49.2.2).bind fun xs188 =>
  some (n248, (((), (), (), ()), (n249, ()), (n243, ()), (n247, ()), (n245, ()), xs188, xs184, xs187, xs186))
  else
  (s41 n220 n243 xs184).bind fun y50 =>
  (some y50.1).bind fun n250 =>
  (some y50.2.1.1).bind fun n251 =>
  (some y50.2.2).bind fun xs189 =>
  some (n250, (((), (), (), ()), (n242, ()), (n251, ()), (n247, ()), (n245, ()), xs183, xs189, xs187, xs186))
def s15 (n220 : Int) (n221 : Int) (n222 : Int) (n223 : Int) (n224 : Int) (xs164 : List Int) (xs165 : List Int) (xs166 : List Int) (xs167 : List Int) : Option (Int × ((Unit × Unit × Unit × Unit) × (Int × Unit) × (Int × Unit) × (Int × Unit) × (Int × Unit) × List Int × List Int × List Int × List Int)) := s15F n220 n221 n222 n223 n224 xs164 xs165 xs166 xs167
/-! ### (*incipit/extent.Set).All -/
def s49F (n280 : Int) (xs214 : List Int) : Option ((Unit × Unit) × ((Int × Unit) × List Int × Unit)) :=
  some (((), ()), ((n280, ()), xs214, ()))
def s49 (n280 : Int) (xs214 : List Int) : Option ((Unit × Unit) × ((Int × Unit) × List Int × Unit)) := s49F n280 xs214
/-! ### (*incipit/extent.Set).All$1 -/
def s70_j1F (r_l1 : Int → Int → (List Int) → Option (Tr Int (Unit × (Int × Unit) × List Int))) (n291 : Int) (b21 : Bool) (n292 : Int) (xs223 : List Int) : Option (Tr Int (Unit × (Int × Unit) × List Int)) :=
  if b21 = true then
  some (.done ((), (n292, ()), xs223))
  else
  (s71 (IntKind.i64.wrap (n291 + 1)) n292 xs223).bind fun y57 =>
  (some y57.1).bind fun n293 =>
  (some y57.2.1.1).bind fun n294 =>
  (some y57.2.2).bind fun xs224 =>
  r_l1 n293 n294 xs224
def s70_j1 (r_l1 : Int → Int → (List Int) → Option (Tr Int (Unit × (Int × Unit) × List Int))) (n291 : Int) (b21 : Bool) (n292 : Int) (xs223 : List Int) : Option (Tr Int (Unit × (Int × Unit) × List Int)) := s70_j1F r_l1 n291 b21 n292 xs223
def s70_l1B (j1 : Int → Bool → Int → (List Int) → Option (Tr Int (Unit × (Int × Unit) × List Int))) (n289 : Int) (n290 : Int) (xs222 : List Int) : Option (Tr Int (Unit × (Int × Unit) × List Int)) :=
  if n289 ≥ 0 then
  consT n289 (
  j1 n289 true n290 xs222)
  (j1 n289 false n290 xs222)
  else
  some (.done ((), (n290, ()), xs222))
def s70_l1 (n_ : Nat) (n289 : Int) (n290 : Int) (xs222 : List Int) : Option (Tr Int (Unit × (Int × Unit) × List Int)) := iterL (fun (r_ : ((Unit × Unit × Int) × (Unit × (Int × Unit) × (List Int))) → Option (Tr Int (Unit × (Int × Unit) × List Int))) (x : ((Unit × Unit × Int) × (Unit × (Int × Unit) × (List Int)))) => s70_l1B (s70_j1 (fun n289 n290 xs222 => r_ (((), (), n289), ((), (n290, ()), xs222)))) x.1.2.2 x.2.2.1.1 x.2.2.2) n_ (((), (), n289), ((), (n290, ()), xs222))
def s70F (l1 : Int → Int → (List Int) → Option (Tr Int (Unit × (Int × Unit) × List Int))) (n286 : Int) (xs220 : List Int) : Option (Tr Int (Unit × (Int × Unit) × List Int)) :=
  (s71 0 n286 xs220).bind fun y56 =>
  (some y56.1).bind fun n287 =>
  (some y56.2.1.1).bind fun n288 =>
  (some y56.2.2).bind fun xs221 =>
  l1 n287 n288 xs221
def s70 (n286 : Int) (xs220 : List Int) : Option (Tr Int (Unit × (Int × Unit) × List Int)) := s70F (s70_l1 FUEL) n286 xs220
/-! ### (*incipit/freemap.Map).none -/
def s68_v2F (n312 : Int) (n313 : Int) (n314 : Int) (n315 : Int) (xs240 : List Int) (xs241 : List Int) (xs242 : List Int) (xs243 : List Int) : Option (Unit × ((Unit × Unit × Unit × Unit) × (Int × Unit) × (Int × Unit) × (Int × Unit) × (Int × Unit) × List Int × List Int × List Int × List Int × (Int × Unit) × List Int)) :=
  (s50 n312 xs240).bind fun y60 =>
  (some y60.1).bind fun n316 =>
  (some y60.2.1.1).bind fun n317 =>
  (some y60.2.2).bind fun xs244 =>
  (s40_v2 n316).bind fun y61 =>
  (some y61.2.1.1).bind fun n318 =>
  (some y61.2.2).bind fun xs245 =>
  some ((), (((), (), (), ()), (n317, ()), (n313, ()), (n314, ()), (n315, ()), xs244, xs241, xs242, xs243, (n318, ()), xs245))
def s68_v2 (n312 : Int) (n313 : Int) (n314 : Int) (n315 : Int) (xs240 : List Int) (xs241 : List Int) (xs242 : List Int) (xs243 : List Int) : Option (Unit × ((Unit × Unit × Unit × Unit) × (Int × Unit) × (Int × Unit) × (Int × Unit) × (Int × Unit) × List Int × List Int × List Int × List Int × (Int × Unit) × List Int)) := s68_v2F n312 n313 n314 n315 xs240 xs241 xs242 xs243
/-! ### (*incipit/freemap.Map).settle -/
def s43_v2F (n306 : Int) (n307 : Int) (n308 : Int) (n309 : Int) (xs234 : List Int) (xs235 : List Int) (xs236 : List Int) (xs237 : List Int) : Option (Unit × ((Unit × Unit × Unit × Unit) × (Int × Unit) × (Int × Unit) × (Int × Unit) × (Int × Unit) × List Int × List Int × List Int × List Int × (Int × Unit) × (Int × Unit) × (Int × Unit) × List Int × List Int × List Int)) :=
  (s65_v2 n306 xs234).bind fun y59 =>
  (some y59.2.1.1).bind fun n310 =>
  (some y59.2.2.1).bind fun xs238 =>
  (some y59.2.2.2.1.1).bind fun n311 =>
  (some y59.2.2.2.2).bind fun xs239 =>
  (s68_v2 n310 n307 n308 n311 xs238 xs235 xs236 xs239).bind fun y62 =>
  (some y62.2.2.1.1).bind fun n319 =>
  (some y62.2.2.2.1.1).bind fun n320 =>
  (some y62.2.2.2.2.1.1).bind fun n321 =>
  (some y62.2.2.2.2.2.1.1).bind fun n322 =>
  (some y62.2.2.2.2.2.2.1).bind fun xs246 =>
  (some y62.2.2.2.2.2.2.2.1).bind fun xs247 =>
  (some y62.2.2.2.2.2.2.2.2.1).bind fun xs248 =>
  (some y62.2.2.2.2.2.2.2.2.2.1).bind fun xs249 =>
  (some y62.2.2.2.2.2.2.2.2.2.2.1.1).bind fun n323 =>
  (some y62.2.2.2.2.2.2.2.2.2.2.2).bind fun xs250 =>
  (s68_v2 n319 n320 n321 n322 xs246 xs247 xs248 xs249).bind fun y63 =>
  (some y63.2.2.1.1).bind fun n324 =>
  (some y63.2.2.2.1.1).bind fun n325 =>
  (some y63.2.2.2.2.1.1).bind fun n326 =>
  (some y63.2.2.2.2.2.1.1).bind fun n327 =>
  (some y63.2.2.2.2.2.2.1).bind fun xs251 =>
  (some y63.2.2.2.2.2.2.2.1).bind fun xs252 =>
  (some y63.2.2.2.2.2.2.2.2.1).bind fun xs253 =>
  (some y63.2.2.2.2.2.2.2.2.2.1).bind fun xs254 =>
  (some y63.2.2.2.2.2.2.2.2.2.2.1.1).bind fun n328 =>
  (some y63.2.2.2.2.2.2.2.2.2.2.2).bind fun xs255 =>
  some ((), (((), (), (), ()), (n324, ()), (n325, ()), (n326, ()), (n309, ()), xs251, xs252, xs253, xs237, (n323, ()), (n328, ()), (n327, ()), xs250, xs255, xs254))
def s43_v2 (n306 : Int) (n307 : Int) (n308 : Int) (n309 : Int) (xs234 : List Int) (xs235 : List Int) (xs236 : List Int) (xs237 : List Int) : Option (Unit × ((Unit × Unit × Unit × Unit) × (Int × Unit) × (Int × Unit) × (Int × Unit) × (Int × Unit) × List Int × List Int × List Int × List Int × (Int × Unit) × (Int × Unit) × (Int × Unit) × List Int × List Int × List Int)) := s43_v2F n306 n307 n308 n309 xs234 xs235 xs236 xs237
/-! ### (*incipit/freemap.Map).Commit -/
def s16_r1B (r_r1 : Int → Int → Int → (List Int) → (List Int) → (List Int) → Option (Unit × ((Unit × Unit × Unit × Unit) × (Int × Unit) × (Int × Unit) × (Int × Unit) × (Int × Unit) × List Int × List Int × List Int × List Int × (Int × Unit) × (Int × Unit) × (Int × Unit) × List Int × List Int × List Int))) (n299 : Int) (n295 : Int) (n296 : Int) (n297 : Int) (xs225 : List Int) (xs226 : List Int) (xs227 : List Int) : Option (Unit × ((Unit × Unit × Unit × Unit) × (Int × Unit) × (Int × Unit) × (Int × Unit) × (Int × Unit) × List Int × List Int × List Int × List Int × (Int × Unit) × (Int × Unit) × (Int × Unit) × List Int × List Int × List Int)) :=
  (s41 n299 n295 xs225).bind fun y58 =>
  (some y58.1).bind fun n300 =>
  (some y58.2.1.1).bind fun n301 =>
  (some y58.2.2).bind fun xs229 =>
  r_r1 n301 n296 n297 xs229 xs226 xs227
def s16_r1D (n302 : Int) (xs230 : List Int) (n303 : Int) (n304 : Int) (n305 : Int) (xs231 : List Int) (xs232 : List Int) (xs233 : List Int) : Option (Unit × ((Unit × Unit × Unit × Unit) × (Int × Unit) × (Int × Unit) × (Int × Unit) × (Int × Unit) × List Int × List Int × List Int × List Int × (Int × Unit) × (Int × Unit) × (Int × Unit) × List Int × List Int × List Int)) :=
  (s43_v2 n303 n302 n304 n305 xs231 xs230 xs232 xs233).bind fun y64 =>
  (some y64.2.2.1.1).bind fun n329 =>
  (some y64.2.2.2.1.1).bind fun n330 =>
  (some y64.2.2.2.2.1.1).bind fun n331 =>
  (some y64.2.2.2.2.2.1.1).bind fun n332 =>
  (some y64.2.2.2.2.2.2.1).bind fun xs256 =>
  (some y64.2.2.2.2.2.2.2.1).bind fun xs257 =>
  (some y64.2.2.2.2.2.2.2.2.1).bind fun xs258 =>
  (some y64.2.2.2.2.2.2.2.2.2.1).bind fun xs259 =>
  (some y64.2.2.2.2.2.2.2.2.2.2.1.1).bind fun n333 =>
  (some y64.2.2.2.2.2.2.2.2.2.2.2.1.1).bind fun n334 =>
  (some y64.2.2.2.2.2.2.2.2.2.2.2.2.1.1).bind fun n335 =>
  (some y64.2.2.2.2.2.2.2.2.2.2.2.2.2.1).bind fun xs260 =>
  (some y64.2.2.2.2.2.2.2.2.2.2.2.2.2.2.1).bind fun xs261 =>
  (some y64.2.2.2.2.2.2.2.2.2.2.2.2.2.2.2).bind fun xs262 =>
  some ((), (((), (), (), ()), (n329, ()), (n330, ()), (n331, ()), (n332, ()), xs256, xs257, xs258, xs259, (n333, ()), (n334, ()), (n335, ()), xs260, xs261, xs262))
def s16_r1 (tr_ : (Tr Int (Unit × (Int × Unit) × (List Int)))) (n295 : Int) (n296 : Int) (n297 : Int) (xs225 : List Int) (xs226 : List Int) (xs227 : List Int) : Option (Unit × ((Unit × Unit × Unit × Unit) × (Int × Unit) × (Int × Unit) × (Int × Unit) × (Int × Unit) × List Int × List Int × List Int × List Int × (Int × Unit) × (Int × Unit) × (Int × Unit) × List Int × List Int × List Int)) := iterT (fun (d_ : (Unit × (Int × Unit) × (List Int))) (y_ : ((Unit × Unit × Unit × Unit) × (Int × Unit) × (Int × Unit) × (Int × Unit) × (List Int) × (List Int) × (List Int) × Unit)) => s16_r1D d_.2.1.1 d_.2.2 y_.2.1.1 y_.2.2.1.1 y_.2.2.2.1.1 y_.2.2.2.2.1 y_.2.2.2.2.2.1 y_.2.2.2.2.2.2.1) (fun (v_ : Int) (t_ : (Unit × (Int × Unit) × (List Int))) (r_ : ((Unit × Unit × Unit × Unit) × (Int × Unit) × (Int × Unit) × (Int × Unit) × (List Int) × (List Int) × (List Int) × Unit) → Option (Unit × ((Unit × Unit × Unit × Unit) × (Int × Unit) × (Int × Unit) × (Int × Unit) × (Int × Unit) × List Int × List Int × List Int × List Int × (Int × Unit) × (Int × Unit) × (Int × Unit) × List Int × List Int × List Int))) (y_ : ((Unit × Unit × Unit × Unit) × (Int × Unit) × (Int × Unit) × (Int × Unit) × (List Int) × (List Int) × (List Int) × Unit)) => s16_r1B (fun n295 n296 n297 xs225 xs226 xs227 => r_ (((), (), (), ()), (n295, ()), (n296, ()), (n297, ()), xs225, xs226, xs227, ())) v_ y_.2.1.1 y_.2.2.1.1 y_.2.2.2.1.1 y_.2.2.2.2.1 y_.2.2.2.2.2.1 y_.2.2.2.2.2.2.1) tr_ (((), (), (), ()), (n295, ()), (n296, ()), (n297, ()), xs225, xs226, xs227, ())
def s16_j1F (r1 : (Tr Int (Unit × (Int × Unit) × (List Int))) → Int → Int → Int → (List Int) → (List Int) → (List Int) → Option (Unit × ((Unit × Unit × Unit × Unit) × (Int × Unit) × (Int × Unit) × (Int × Unit) × (Int × Unit) × List Int × List Int × List Int × List Int × (Int × Unit) × (Int × Unit) × (Int × Unit) × List Int × List Int × List Int))) (n282 : Int) (n283 : Int) (n284 : Int) (n285 : Int) (xs216 : List Int) (xs217 : List Int) (xs218 : List Int) (xs219 : List Int) : Option (Unit × ((Unit × Unit × Unit × Unit) × (Int × Unit) × (Int × Unit) × (Int × Unit) × (Int × Unit) × List Int × List Int × List Int × List Int × (Int × Unit) × (Int × Unit) × (Int × Unit) × List Int × List Int × List Int)) :=
  (s70 n283 xs217).bind fun tr2 =>
  r1 tr2 n282 n284 n285 xs216 xs218 xs219
def s16_j1 (n282 : Int) (n283 : Int) (n284 : Int) (n285 : Int) (xs216 : List Int) (xs217 : List Int) (xs218 : List Int) (xs219 : List Int) : Option (Unit × ((Unit × Unit × Unit × Unit) × (Int × Unit) × (Int × Unit) × (Int × Unit) × (Int × Unit) × List Int × List Int × List Int × List Int × (Int × Unit) × (Int × Unit) × (Int × Unit) × List Int × List Int × List Int)) := s16_j1F s16_r1 n282 n283 n284 n285 xs216 xs217 xs218 xs219
def s16F (j1 : Int → Int → Int → Int → (List Int) → (List Int) → (List Int) → (List Int) → Option (Unit × ((Unit × Unit × Unit × Unit) × (Int × Unit) × (Int × Unit) × (Int × Unit) × (Int × Unit) × List Int × List Int × List Int × List Int × (Int × Unit) × (Int × Unit) × (Int × Unit) × List Int × List Int × List Int))) (n272 : Int) (n273 : Int) (n274 : Int) (n275 : Int) (xs206 : List Int) (xs207 : List Int) (xs208 : List Int) (xs209 : List Int) : Option (Unit × ((Unit × Unit × Unit × Unit) × (Int × Unit) × (Int × Unit) × (Int × Unit) × (Int × Unit) × List Int × List Int × List Int × List Int × (Int × Unit) × (Int × Unit) × (Int × Unit) × List Int × List Int × List Int)) :=
  (s45_v2 n272 n273 n274 n275 xs206 xs207 xs208 xs209).bind fun y54 =>
  (some y54.2.2.1.1).bind fun n276 =>
  (some y54.2.2.2.1.1).bind fun n277 =>
  (some y54.2.2.2.2.1.1).bind fun n278 =>
  (some y54.2.2.2.2.2.1.1).bind fun n279 =>
  (some y54.2.2.2.2.2.2.1).bind fun xs210 =>
  (some y54.2.2.2.2.2.2.2.1).bind fun xs211 =>
  (some y54.2.2.2.2.2.2.2.2.1).bind fun xs212 =>
  (some y54.2.2.2.2.2.2.2.2.2).bind fun xs213 =>
  (s49 n277 xs211).bind fun y55 =>
  (some y55.2.1.1).bind fun n281 =>
  (some y55.2.2.1).bind fun xs215 =>
  j1 n276 n281 n278 n279 xs210 xs215 xs212 xs213
def s16 (n272 : Int) (n273 : Int) (n274 : Int) (n275 : Int) (xs206 : List Int) (xs207 : List Int) (xs208 : List Int) (xs209 : List Int) : Option (Unit × ((Unit × Unit × Unit × Unit) × (Int × Unit) × (Int × Unit) × (Int × Unit) × (Int × Unit) × List Int × List Int × List Int × List Int × (Int × Unit) × (Int × Unit) × (Int × Unit) × List Int × List Int × List Int)) := s16F s16_j1 n272 n273 n274 n275 xs206 xs207 xs208 xs209
/-! ### (*incipit/freemap.Map).Taken -/
def s17_j1F (r_l1 : Int → Int → Int → Int → Int → Int → (List Int) → (List Int) → (List Int) → (List Int) → (List Int) → Option (Unit × ((Unit × Unit × Unit × Unit) × (Int × Unit) × (Int × Unit) × (Int × Unit) × (Int × Unit) × List Int × List Int × List Int × List Int × List Int))) (n379 : Int) (n380 : Int) (n381 : Int) (n382 : Int) (n383 : Int) (n384 : Int) (xs303 : List Int) (xs304 : List Int) (xs305 : List Int) (xs306 : List Int) (xs307 : List Int) : Option (Unit × ((Unit × Unit × Unit × Unit) × (Int × Unit) × (Int × Unit) × (Int × Unit) × (Int × Unit) × List Int × List Int × List Int × List Int × List Int)) :=
  r_l1 n379 (IntKind.i64.wrap (n380 + 1)) n381 n382 n383 n384 xs303 xs304 xs305 xs306 xs307
def s17_j1 (r_l1 : Int → Int → Int → Int → Int → Int → (List Int) → (List Int) → (List Int) → (List Int) → (List Int) → Option (Unit × ((Unit × Unit × Unit × Unit) × (Int × Unit) × (Int × Unit) × (Int × Unit) × (Int × Unit) × List Int × List Int × List Int × List Int × List Int))) (n379 : Int) (n380 : Int) (n381 : Int) (n382 : Int) (n383 : Int) (n384 : Int) (xs303 : List Int) (xs304 : List Int) (xs305 : List Int) (xs306 : List Int) (xs307 : List Int) : Option (Unit × ((Unit × Unit × Unit × Unit) × (Int × Unit) × (Int × Unit) × (Int × Unit) × (Int × Unit) × List Int × List Int × List Int × List Int × List Int)) := s17_j1F r_l1 n379 n380 n381 n382 n383 n384 xs303 xs304 xs305 xs306 xs307
def s17_l1B (j1 : Int → Int → Int → Int → Int → Int → (List Int) → (List Int) → (List Int) → (List Int) → (List Int) → Option (Unit × ((Unit × Unit × Unit × Unit) × (Int × Unit) × (Int × Unit) × (Int × Unit) × (Int × Unit) × List Int × List Int × List Int × List Int × List Int))) (n369 : Int) (n370 : Int) (n371 : Int) (n372 : Int) (n373 : Int) (n374 : Int) (xs293 : List Int) (xs294 : List Int) (xs295 : List Int) (xs296 : List Int) (xs297 : List Int) : Option (Unit × ((Unit × Unit × Unit × Unit) × (Int × Unit) × (Int × Unit) × (Int × Unit) × (Int × Unit) × List Int × List Int × List Int × List Int × List Int)) :=
  if n370 < n369 then
  (s32 n370 n371 n372 n373 n374 xs293 xs294 xs295 xs296).bind fun y69 =>
  (some y69.1).bind fun b23 =>
  (some y69.2.2.1.1).bind fun n375 =>
  (some y69.2.2.2.1.1).bind fun n376 =>
  (some y69.2.2.2.2.1.1).bind fun n377 =>
  (some y69.2.2.2.2.2.1.1).bind fun n378 =>
  (some y69.2.2.2.2.2.2.1).bind fun xs298 =>
  (some y69.2.2.2.2.2.2.2.1).bind fun xs299 =>
  (some y69.2.2.2.2.2.2.2.2.1).bind fun xs300 =>
  (some y69.2.2.2.2.2.2.2.2.2).bind fun xs301 =>
  if b23 = true then
  (appI xs297 ([n370] : List Int) 8).bind fun xs302 =>
  j1 n369 n370 n375 n376 n377 n378 xs298 xs299 xs300 xs301 xs302
  else
  j1 n369 n370 n375 n376 n377 n378 xs298 xs299 xs300 xs301 xs297
  else
  some ((), (((), (), (), ()), (n371, ()), (n372, ()), (n373, ()), (n374, ()), xs293, xs294, xs295, xs296, xs297))
def s17_l1 (n_ : Nat) (n369 : Int) (n370 : Int) (n371 : Int) (n372 : Int) (n373 : Int) (n374 : Int) (xs293 : List Int) (xs294 : List Int) (xs295 : List Int) (xs296 : List Int) (xs297 : List Int) : Option (Unit × ((Unit × Unit × Unit × Unit) × (Int × Unit) × (Int × Unit) × (Int × Unit) × (Int × Unit) × List Int × List Int × List Int × List Int × List Int)) := iterL (fun (r_ : ((Unit × Unit × Int × Int) × ((Unit × Unit × Unit × Unit) × (Int × Unit) × (Int × Unit) × (Int × Unit) × (Int × Unit) × (List Int) × (List Int) × (List Int) × (List Int) × (List Int))) → Option (Unit × ((Unit × Unit × Unit × Unit) × (Int × Unit) × (Int × Unit) × (Int × Unit) × (Int × Unit) × List Int × List Int × List Int × List Int × List Int))) (x : ((Unit × Unit × Int × Int) × ((Unit × Unit × Unit × Unit) × (Int × Unit) × (Int × Unit) × (Int × Unit) × (Int × Unit) × (List Int) × (List Int) × (List Int) × (List Int) × (List Int)))) => s17_l1B (s17_j1 (fun n369 n370 n371 n372 n373 n374 xs293 xs294 xs295 xs296 xs297 => r_ (((), (), n369, n370), (((), (), (), ()), (n371, ()), (n372, ()), (n373, ()), (n374, ()), xs293, xs294, xs295, xs296, xs297)))) x.1.2.2.1 x.1.2.2.2 x.2.2.1.1 x.2.2.2.1.1 x.2.2.2.2.1.1 x.2.2.2.2.2.1.1 x.2.2.2.2.2.2.1 x.2.2.2.2.2.2.2.1 x.2.2.2.2.2.2.2.2.1 x.2.2.2.2.2.2.2.2.2.1 x.2.2.2.2.2.2.2.2.2.2) n_ (((), (), n369, n370), (((), (), (), ()), (n371, ()), (n372, ()), (n373, ()), (n374, ()), xs293, xs294, xs295, xs296, xs297))
def s17F (l1 : Int → Int → Int → Int → Int → Int → (List Int) → (List Int) → (List Int) → (List Int) → (List Int) → Option (Unit × ((Unit × Unit × Unit × Unit) × (Int × Unit) × (Int × Unit) × (Int × Unit) × (Int × Unit) × List Int × List Int × List Int × List Int × List Int))) (n343 : Int) (n344 : Int) (n345 : Int) (n346 : Int) (xs270 : List Int) (xs271 : List Int) (xs272 : List Int) (xs273 : List Int) : Option (Unit × ((Unit × Unit × Unit × Unit) × (Int × Unit) × (Int × Unit) × (Int × Unit) × (Int × Unit) × List Int × List Int × List Int × List Int × List Int)) :=
  (s45_v2 n343 n344 n345 n346 xs270 xs271 xs272 xs273).bind fun y66 =>
  (some y66.2.2.1.1).bind fun n347 =>
  (some y66.2.2.2.1.1).bind fun n348 =>
  (some y66.2.2.2.2.1.1).bind fun n349 =>
  (some y66.2.2.2.2.2.1.1).bind fun n350 =>
  (some y66.2.2.2.2.2.2.1).bind fun xs274 =>
  (some y66.2.2.2.2.2.2.2.1).bind fun xs275 =>
  (some y66.2.2.2.2.2.2.2.2.1).bind fun xs276 =>
  (some y66.2.2.2.2.2.2.2.2.2).bind fun xs277 =>
  (s50 n347 xs274).bind fun y67 =>
  (some y67.1).bind fun n351 =>
  (some y67.2.1.1).bind fun n352 =>
  (some y67.2.2).bind fun xs278 =>
  l1 n351 0 n352 n348 n349 n350 xs278 xs275 xs276 xs277 []
def s17 (n343 : Int) (n344 : Int) (n345 : Int) (n346 : Int) (xs270 : List Int) (xs271 : List Int) (xs272 : List Int) (xs273 : List Int) : Option (Unit × ((Unit × Unit × Unit × Unit) × (Int × Unit) × (Int × Unit) × (Int × Unit) × (Int × Unit) × List Int × List Int × List Int × List Int × List Int)) := s17F (s17_l1 FUEL) n343 n344 n345 n346 xs270 xs271 xs272 xs273
/-! ### slices.Equal[[]int,int] -/
def s19_l1B (r_l1 : (List Int) → (List Int) → Int → Int → Option Bool) (xs315 : List Int) (xs316 : List Int) (n389 : Int) (n390 : Int) : Option Bool :=
  if n390 < n389 then
  (getI xs315 n390).bind fun x11 =>
  (getI xs316 n390).bind fun x12 =>
  if x11 ≠ x12 then
  some false
  else
  r_l1 xs315 xs316 n389 (IntKind.i64.wrap (n390 + 1))
  else
  some true
def s19_l1 (n_ : Nat) (xs315 : List Int) (xs316 : List Int) (n389 : Int) (n390 : Int) : Option Bool := iterL (fun (r_ : ((List Int) × (List Int) × Int × Int) → Option Bool) (x : ((List Int) × (List Int) × Int × Int)) => s19_l1B (fun xs315 xs316 n389 n390 => r_ (xs315, xs316, n389, n390)) x.1 x.2.1 x.2.2.1 x.2.2.2) n_ (xs315, xs316, n389, n390)
def s19F (l1 : (List Int) → (List Int) → Int → Int → Option Bool) (xs313 : List Int) (xs314 : List Int) : Option Bool :=
  if (xs313.length : Int) ≠ (xs314.length : Int) then
  some false
  else
  l1 xs313 xs314 (xs313.length : Int) 0
def s19 (xs313 : List Int) (xs314 : List Int) : Option Bool := s19F (s19_l1 FUEL) xs313 xs314
/-! ### incipit/incipitlaw08.live -/
def s9_j2F (b11 : Bool) : Option Bool :=
  if b11 = true then
  some false
  else
  (s12).bind fun y24 =>
  (s14 2).bind fun y25 =>
  some false
def s9_j2 (b11 : Bool) : Option Bool := s9_j2F b11
def s9_j1F (j2 : Bool → Option Bool) (n81 : Int) : Option Bool :=
  if n81 ≠ 0 then
  j2 true
  else
  j2 true
def s9_j1 (n81 : Int) : Option Bool := s9_j1F s9_j2 n81
def s9_j5F (b20 : Bool) (n262 : Int) (n263 : Int) (n264 : Int) (n265 : Int) (xs198 : List Int) (xs199 : List Int) (xs200 : List Int) (xs201 : List Int) : Option Bool :=
  if b20 = true then
  some false
  else
  (s12_v2 n262 n263 n264 n265 xs198 xs199 xs200 xs201).bind fun y53 =>
  (some y53.1.1).bind fun n266 =>
  (some y53.1.2).bind fun n267 =>
  (some y53.2.2.1.1).bind fun n268 =>
  (some y53.2.2.2.1.1).bind fun n269 =>
  (some y53.2.2.2.2.1.1).bind fun n270 =>
  (some y53.2.2.2.2.2.1.1).bind fun n271 =>
  (some y53.2.2.2.2.2.2.1).bind fun xs202 =>
  (some y53.2.2.2.2.2.2.2.1).bind fun xs203 =>
  (some y53.2.2.2.2.2.2.2.2.1).bind fun xs204 =>
  (some y53.2.2.2.2.2.2.2.2.2).bind fun xs205 =>
  if n266 = 2 then
  if n267 = 0 then
  (s16 n268 n269 n270 n271 xs202 xs203 xs204 xs205).bind fun y65 =>
  (some y65.2.2.1.1).bind fun n336 =>
  (some y65.2.2.2.1.1).bind fun n337 =>
  (some y65.2.2.2.2.1.1).bind fun n338 =>
  (some y65.2.2.2.2.2.1.1).bind fun n339 =>
  (some y65.2.2.2.2.2.2.1).bind fun xs263 =>
  (some y65.2.2.2.2.2.2.2.1).bind fun xs264 =>
  (some y65.2.2.2.2.2.2.2.2.1).bind fun xs265 =>
  (some y65.2.2.2.2.2.2.2.2.2.1).bind fun xs266 =>
  (some y65.2.2.2.2.2.2.2.2.2.2.1.1).bind fun n340 =>
  (some y65.2.2.2.2.2.2.2.2.2.2.2.1.1).bind fun n341 =>
  (some y65.2.2.2.2.2.2.2.2.2.2.2.2.1.1).bind fun n342 =>
  (some y65.2.2.2.2.2.2.2.2.2.2.2.2.2.1).bind fun xs267 =>
  (some y65.2.2.2.2.2.2.2.2.2.2.2.2.2.2.1).bind fun xs268 =>
  (some y65.2.2.2.2.2.2.2.2.2.2.2.2.2.2.2).bind fun xs269 =>
  (s17 n336 n340 n341 n342 xs263 xs267 xs268 xs269).bind fun y70 =>
  (some y70.2.2.1.1).bind fun n385 =>
  (some y70.2.2.2.1.1).bind fun n386 =>
  (some y70.2.2.2.2.1.1).bind fun n387 =>
  (some y70.2.2.2.2.2.1.1).bind fun n388 =>
  (some y70.2.2.2.2.2.2.1).bind fun xs308 =>
  (some y70.2.2.2.2.2.2.2.1).bind fun xs309 =>
  (some y70.2.2.2.2.2.2.2.2.1).bind fun xs310 =>
  (some y70.2.2.2.2.2.2.2.2.2.1).bind fun xs311 =>
  (some y70.2.2.2.2.2.2.2.2.2.2).bind fun xs312 =>
  (s19 xs312 ([0, 1, 2, 5, 6] : List Int)).bind fun b24 =>
  some b24
  else
  some false
  else
  some false
def s9_j5 (b20 : Bool) (n262 : Int) (n263 : Int) (n264 : Int) (n265 : Int) (xs198 : List Int) (xs199 : List Int) (xs200 : List Int) (xs201 : List Int) : Option Bool := s9_j5F b20 n262 n263 n264 n265 xs198 xs199 xs200 xs201
def s9_j4F (j5 : Bool → Int → Int → Int → Int → (List Int) → (List Int) → (List Int) → (List Int) → Option Bool) (b12 : Bool) (n88 : Int) (n89 : Int) (n90 : Int) (n91 : Int) (xs72 : List Int) (xs73 : List Int) (xs74 : List Int) (xs75 : List Int) : Option Bool :=
  if b12 = true then
  some false
  else
  (s12_v2 n88 n89 n90 n91 xs72 xs73 xs74 xs75).bind fun y40 =>
  (some y40.1.1).bind fun n208 =>
  (some y40.1.2).bind fun n209 =>
  (some y40.2.2.1.1).bind fun n210 =>
  (some y40.2.2.2.1.1).bind fun n211 =>
  (some y40.2.2.2.2.1.1).bind fun n212 =>
  (some y40.2.2.2.2.2.1.1).bind fun n213 =>
  (some y40.2.2.2.2.2.2.1).bind fun xs156 =>
  (some y40.2.2.2.2.2.2.2.1).bind fun xs157 =>
  (some y40.2.2.2.2.2.2.2.2.1).bind fun xs158 =>
  (some y40.2.2.2.2.2.2.2.2.2).bind fun xs159 =>
  (s14_v2 2 n210 n211 n212 n213 xs156 xs157 xs158 xs159).bind fun y41 =>
  (some y41.1.1).bind fun n214 =>
  (some y41.1.2).bind fun n215 =>
  (some y41.2.2.1.1).bind fun n216 =>
  (some y41.2.2.2.1.1).bind fun n217 =>
  (some y41.2.2.2.2.1.1).bind fun n218 =>
  (some y41.2.2.2.2.2.1.1).bind fun n219 =>
  (some y41.2.2.2.2.2.2.1).bind fun xs160 =>
  (some y41.2.2.2.2.2.2.2.1).bind fun xs161 =>
  (some y41.2.2.2.2.2.2.2.2.1).bind fun xs162 =>
  (some y41.2.2.2.2.2.2.2.2.2).bind fun xs163 =>
  if n208 ≠ 2 then
  j5 true n216 n217 n218 n219 xs160 xs161 xs162 xs163
  else
  if n214 ≠ 5 then
  j5 true n216 n217 n218 n219 xs160 xs161 xs162 xs163
  else
  if n209 ≠ 0 then
  j5 true n216 n217 n218 n219 xs160 xs161 xs162 xs163
  else
  if n215 ≠ 0 then
  j5 true n216 n217 n218 n219 xs160 xs161 xs162 xs163
  else
  (s15 4 n216 n217 n218 n219 xs160 xs161 xs162 xs163).bind fun y51 =>
  (some y51.1).bind fun n252 =>
  (some y51.2.2.1.1).bind fun n253 =>
  (some y51.2.2.2.1.1).bind fun n254 =>
  (some y51.2.2.2.2.1.1).bind fun n255 =>
  (some y51.2.2.2.2.2.1.1).bind fun n256 =>
  (some y51.2.2.2.2.2.2.1).bind fun xs190 =>
  (some y51.2.2.2.2.2.2.2.1).bind fun xs191 =>
  (some y51.2.2.2.2.2.2.2.2.1).bind fun xs192 =>
  (some y51.2.2.2.2.2.2.2.2.2).bind fun xs193 =>
  if n252 ≠ 0 then
  j5 true n253 n254 n255 n256 xs190 xs191 xs192 xs193
  else
  (s15 2 n253 n254 n255 n256 xs190 xs191 xs192 xs193).bind fun y52 =>
  (some y52.1).bind fun n257 =>
  (some y52.2.2.1.1).bind fun n258 =>
  (some y52.2.2.2.1.1).bind fun n259 =>
  (some y52.2.2.2.2.1.1).bind fun n260 =>
  (some y52.2.2.2.2.2.1.1).bind fun n261 =>
  (some y52.2.2.2.2.2.2.1).bind fun xs194 =>
  (some y52.2.2.2.2.2.2.2.1).bind fun xs195 =>
  (some y52.2.2.2.2.2.2.2.2.1).bind fun xs196 =>
  (some y52.2.2.2.2.2.2.2.2.2).bind fun xs197 =>
  j5 (decide (n257 ≠ 0)) n258 n259 n260 n261 xs194 xs195 xs196 xs197
def s9_j4 (b12 : Bool) (n88 : Int) (n89 : Int) (n90 : Int) (n91 : Int) (xs72 : List Int) (xs73 : List Int) (xs74 : List Int) (xs75 : List Int) : Option Bool := s9_j4F s9_j5 b12 n88 n89 n90 n91 xs72 xs73 xs74 xs75
def s9_j3F (j4 : Bool → Int → Int → Int → Int → (List Int) → (List Int) → (List Int) → (List Int) → Option Bool) (n82 : Int) (n83 : Int) (n84 : Int) (n85 : Int) (n86 : Int) (xs68 : List Int) (xs69 : List Int) (xs70 : List Int) (xs71 : List Int) : Option Bool :=
  if n82 ≠ 0 then
  j4 true n83 n84 n85 n86 xs68 xs69 xs70 xs71
  else
  j4 false n83 n84 n85 n86 xs68 xs69 xs70 xs71
def s9_j3 (n82 : Int) (n83 : Int) (n84 : Int) (n85 : Int) (n86 : Int) (xs68 : List Int) (xs69 : List Int) (xs70 : List Int) (xs71 : List Int) : Option Bool := s9_j3F s9_j4 n82 n83 n84 n85 n86 xs68 xs69 xs70 xs71
def s9F (j1 : Int → Option Bool) (j3 : Int → Int → Int → Int → Int → (List Int) → (List Int) → (List Int) → (List Int) → Option Bool) : Option Bool :=
  (s10 8 ([0, 1, 4] : List Int)).bind fun y19 =>
  match y19 with
  | .inl y20 =>
  j1 1
  | .inr y21 =>
  (some y21.2.2.1.1).bind fun n77 =>
  (some y21.2.2.2.1.1).bind fun n78 =>
  (some y21.2.2.2.2.1.1).bind fun n79 =>
  (some y21.2.2.2.2.2.1.1).bind fun n80 =>
  (some y21.2.2.2.2.2.2.1).bind fun xs64 =>
  (some y21.2.2.2.2.2.2.2.1).bind fun xs65 =>
  (some y21.2.2.2.2.2.2.2.2.1).bind fun xs66 =>
  (some y21.2.2.2.2.2.2.2.2.2).bind fun xs67 =>
  j3 0 n77 n78 n79 n80 xs64 xs65 xs66 xs67
def s9 : Option Bool := s9F s9_j1 s9_j3
/-! ### incipit/freemap.Need -/
def s20F (n392 : Int) : Option Int :=
  (s38 n392).bind fun b28 =>
  if ¬ b28 = true then
  some 0
  else
  if (1024 : Int) ≠ 0 then
  some (IntKind.i64.wrap (1 + (IntKind.i64.wrap (Int.tdiv (IntKind.i64.wrap (n392 - 1)) 1024))))
  else none
def s20 (n392 : Int) : Option Int := s20F n392
/-! ### incipit/freemap.Put -/
def s21_j2F (r_l1 : Int → (List Int) → Int → Int → (List Int) → Option ((Unit × Int) × List Int)) (n404 : Int) (xs325 : List Int) (n405 : Int) (n406 : Int) (xs326 : List Int) : Option ((Unit × Int) × List Int) :=
  r_l1 n404 xs325 n405 (IntKind.i64.wrap (n406 + 1)) xs326
def s21_j2 (r_l1 : Int → (List Int) → Int → Int → (List Int) → Option ((Unit × Int) × List Int)) (n404 : Int) (xs325 : List Int) (n405 : Int) (n406 : Int) (xs326 : List Int) : Option ((Unit × Int) × List Int) := s21_j2F r_l1 n404 xs325 n405 n406 xs326
def s21_l1B (j2 : Int → (List Int) → Int → Int → (List Int) → Option ((Unit × Int) × List Int)) (n401 : Int) (xs322 : List Int) (n402 : Int) (n403 : Int) (xs323 : List Int) : Option ((Unit × Int) × List Int) :=
  if n403 < n402 then
  (getI xs322 n403).bind fun x13 =>
  if (1024 : Int) ≠ 0 then
  if (IntKind.i64.wrap (Int.tdiv x13 1024)) = n401 then
  if (1024 : Int) ≠ 0 then
  if (8 : Int) ≠ 0 then
  if 0 ≤ (IntKind.i64.wrap (Int.tdiv (Int.tmod x13 1024) 8)) ∧ (IntKind.i64.wrap (Int.tdiv (Int.tmod x13 1024) 8)) < (xs323.length : Int) then
  (getI xs323 (IntKind.i64.wrap (Int.tdiv (Int.tmod x13 1024) 8))).bind fun x14 =>
  if (8 : Int) ≠ 0 then
  if (0 : Int) ≤ (Int.tmod (Int.tmod x13 1024) 8) then
  if 0 ≤ (IntKind.i64.wrap (Int.tdiv (Int.tmod x13 1024) 8)) ∧ (IntKind.i64.wrap (Int.tdiv (Int.tmod x13 1024) 8)) < (xs323.length : Int) then
  (setI xs323 (IntKind.i64.wrap (Int.tdiv (Int.tmod x13 1024) 8)) (orI .u8 x14 (shlI .u8 1 (Int.tmod (Int.tmod x13 1024) 8)))).bind fun xs324 =>
  j2 n401 xs322 n402 n403 xs324
  else none
  else none
  else none
  else none
  else none
  else none
  else
  j2 n401 xs322 n402 n403 xs323
  else none
  else
  some (((), 0), xs323)
def s21_l1 (n_ : Nat) (n401 : Int) (xs322 : List Int) (n402 : Int) (n403 : Int) (xs323 : List Int) : Option ((Unit × Int) × List Int) := iterL (fun (r_ : ((Int × Unit × (List Int) × Int × Int) × (List Int)) → Option ((Unit × Int) × List Int)) (x : ((Int × Unit × (List Int) × Int × Int) × (List Int))) => s21_l1B (s21_j2 (fun n401 xs322 n402 n403 xs323 => r_ ((n401, (), xs322, n402, n403), xs323))) x.1.1 x.1.2.2.1 x.1.2.2.2.1 x.1.2.2.2.2 x.2) n_ ((n401, (), xs322, n402, n403), xs323)
def s21_j1F (l1 : Int → (List Int) → Int → Int → (List Int) → Option ((Unit × Int) × List Int)) (xs320 : List Int) (n400 : Int) (b31 : Bool) : Option ((Unit × Int) × List Int) :=
  if b31 = true then
  some (((), 1), [])
  else
  (repI 240 (0 : Int) 1).bind fun xs321 =>
  l1 n400 xs320 (xs320.length : Int) 0 xs321
def s21_j1 (xs320 : List Int) (n400 : Int) (b31 : Bool) : Option ((Unit × Int) × List Int) := s21_j1F (s21_l1 FUEL) xs320 n400 b31
def s21F (j1 : (List Int) → Int → Bool → Option ((Unit × Int) × List Int)) (n397 : Int) (xs319 : List Int) (n398 : Int) : Option ((Unit × Int) × List Int) :=
  (s38 n397).bind fun b29 =>
  if ¬ b29 = true then
  j1 xs319 n398 true
  else
  (s39 n397 xs319).bind fun b30 =>
  if ¬ b30 = true then
  j1 xs319 n398 true
  else
  if n398 < 0 then
  j1 xs319 n398 true
  else
  (s20 n397).bind fun n399 =>
  j1 xs319 n398 (decide (n398 ≥ n399))
def s21 (n397 : Int) (xs319 : List Int) (n398 : Int) : Option ((Unit × Int) × List Int) := s21F s21_j1 n397 xs319 n398
/-! ### incipit/incipitref08.List -/
def s22_j1F (r_l1 : Int → (List Int) → Int → Option Bool) (n411 : Int) (xs330 : List Int) (n412 : Int) (b32 : Bool) : Option Bool :=
  if b32 = true then
  some false
  else
  r_l1 n411 xs330 (IntKind.i64.wrap (n412 + 1))
def s22_j1 (r_l1 : Int → (List Int) → Int → Option Bool) (n411 : Int) (xs330 : List Int) (n412 : Int) (b32 : Bool) : Option Bool := s22_j1F r_l1 n411 xs330 n412 b32
def s22_l1B (j1 : Int → (List Int) → Int → Bool → Option Bool) (n409 : Int) (xs329 : List Int) (n410 : Int) : Option Bool :=
  if n410 < (xs329.length : Int) then
  (getI xs329 n410).bind fun x15 =>
  if x15 < 0 then
  j1 n409 xs329 n410 true
  else
  (getI xs329 n410).bind fun x16 =>
  if x16 ≥ n409 then
  j1 n409 xs329 n410 true
  else
  if n410 > 0 then
  (getI xs329 (IntKind.i64.wrap (n410 - 1))).bind fun x17 =>
  (getI xs329 n410).bind fun x18 =>
  j1 n409 xs329 n410 (decide (x17 ≥ x18))
  else
  j1 n409 xs329 n410 false
  else
  some true
def s22_l1 (n_ : Nat) (n409 : Int) (xs329 : List Int) (n410 : Int) : Option Bool := iterL (fun (r_ : (Int × (List Int) × Int) → Option Bool) (x : (Int × (List Int) × Int)) => s22_l1B (s22_j1 (fun n409 xs329 n410 => r_ (n409, xs329, n410))) x.1 x.2.1 x.2.2) n_ (n409, xs329, n410)
def s22F (l1 : Int → (List Int) → Int → Option Bool) (n408 : Int) (xs328 : List Int) : Option Bool :=
  l1 n408 xs328 0
def s22 (n408 : Int) (xs328 : List Int) : Option Bool := s22F (s22_l1 FUEL) n408 xs328
/-! ### incipit/freemap.bits -/
def s51F (n422 : Int) (xs339 : List Int) : Option ((Unit × (Unit × Unit)) × (List Int × Int)) :=
  some (((), ((), ())), (xs339, n422))
def s51 (n422 : Int) (xs339 : List Int) : Option ((Unit × (Unit × Unit)) × (List Int × Int)) := s51F n422 xs339
/-! ### incipit/freemap.bits$1 -/
def s73_j1F (r_l1 : Int → Int → (List Int) → Int → Option (Tr Int (List Int × Int))) (n432 : Int) (n433 : Int) (b36 : Bool) (xs346 : List Int) (n434 : Int) : Option (Tr Int (List Int × Int)) :=
  if b36 = true then
  some (.done (xs346, n434))
  else
  r_l1 n432 (IntKind.i64.wrap (n433 + 1)) xs346 n434
def s73_j1 (r_l1 : Int → Int → (List Int) → Int → Option (Tr Int (List Int × Int))) (n432 : Int) (n433 : Int) (b36 : Bool) (xs346 : List Int) (n434 : Int) : Option (Tr Int (List Int × Int)) := s73_j1F r_l1 n432 n433 b36 xs346 n434
def s73_l1B (j1 : Int → Int → Bool → (List Int) → Int → Option (Tr Int (List Int × Int))) (n429 : Int) (n430 : Int) (xs345 : List Int) (n431 : Int) : Option (Tr Int (List Int × Int)) :=
  if n430 < n429 then
  if (8 : Int) ≠ 0 then
  (getI xs345 (IntKind.i64.wrap (Int.tdiv n430 8))).bind fun x20 =>
  if (8 : Int) ≠ 0 then
  if (0 : Int) ≤ (Int.tmod n430 8) then
  if (andI .u8 (shrI .u8 x20 (Int.tmod n430 8)) 1) = 1 then
  if (andI .u8 (shrI .u8 x20 (Int.tmod n430 8)) 1) = 1 then
  consT (IntKind.i64.wrap ((IntKind.i64.wrap (n431 * 1024)) + n430)) (
  j1 n429 n430 true xs345 n431)
  (j1 n429 n430 false xs345 n431)
  else
  j1 n429 n430 false xs345 n431
  else
  if (andI .u8 (shrI .u8 x20 (Int.tmod n430 8)) 1) = 1 then
  none
  else
  j1 n429 n430 false xs345 n431
  else none
  else none
  else none
  else
  some (.done (xs345, n431))
def s73_l1 (n_ : Nat) (n429 : Int) (n430 : Int) (xs345 : List Int) (n431 : Int) : Option (Tr Int (List Int × Int)) := iterL (fun (r_ : ((Unit × Unit × Unit × Int × Int) × ((List Int) × Int)) → Option (Tr Int (List Int × Int))) (x : ((Unit × Unit × Unit × Int × Int) × ((List Int) × Int))) => s73_l1B (s73_j1 (fun n429 n430 xs345 n431 => r_ (((), (), (), n429, n430), (xs345, n431)))) x.1.2.2.2.1 x.1.2.2.2.2 x.2.1 x.2.2) n_ (((), (), (), n429, n430), (xs345, n431))
def s73F (l1 : Int → Int → (List Int) → Int → Option (Tr Int (List Int × Int))) (xs344 : List Int) (n428 : Int) : Option (Tr Int (List Int × Int)) :=
  l1 (IntKind.i64.wrap ((if (128 : Int) < (xs344.length : Int) then 128 else (xs344.length : Int)) * 8)) 0 xs344 n428
def s73 (xs344 : List Int) (n428 : Int) : Option (Tr Int (List Int × Int)) := s73F (s73_l1 FUEL) xs344 n428
/-! ### slices.Equal[[]byte,byte] -/
def s52_l1B (r_l1 : (List Int) → (List Int) → Int → Int → Option Bool) (xs372 : List Int) (xs373 : List Int) (n455 : Int) (n456 : Int) : Option Bool :=
  if n456 < n455 then
  (getI xs372 n456).bind fun x23 =>
  (getI xs373 n456).bind fun x24 =>
  if x23 ≠ x24 then
  some false
  else
  r_l1 xs372 xs373 n455 (IntKind.i64.wrap (n456 + 1))
  else
  some true
def s52_l1 (n_ : Nat) (xs372 : List Int) (xs373 : List Int) (n455 : Int) (n456 : Int) : Option Bool := iterL (fun (r_ : ((List Int) × (List Int) × Int × Int) → Option Bool) (x : ((List Int) × (List Int) × Int × Int)) => s52_l1B (fun xs372 xs373 n455 n456 => r_ (xs372, xs373, n455, n456)) x.1 x.2.1 x.2.2.1 x.2.2.2) n_ (xs372, xs373, n455, n456)
def s52F (l1 : (List Int) → (List Int) → Int → Int → Option Bool) (xs370 : List Int) (xs371 : List Int) : Option Bool :=
  if (xs370.length : Int) ≠ (xs371.length : Int) then
  some false
  else
  l1 xs370 xs371 (xs370.length : Int) 0
def s52 (xs370 : List Int) (xs371 : List Int) : Option Bool := s52F (s52_l1 FUEL) xs370 xs371
/-! ### incipit/freemap.Get -/
def s23_r1B (r_r1 : (List Int) → Option ((Unit × Int) × List Int)) (n449 : Int) (xs362 : List Int) : Option ((Unit × Int) × List Int) :=
  (appI xs362 ([n449] : List Int) 8).bind fun xs364 =>
  r_r1 xs364
def s23_r1D (r_l1 : Int → (List (List Int)) → (List (List Int)) → Int → Int → (List Int) → Option ((Unit × Int) × List Int)) (n444 : Int) (xs358 : List (List Int)) (xs359 : List (List Int)) (n445 : Int) (n446 : Int) (xs365 : List Int) (n450 : Int) (xs366 : List Int) : Option ((Unit × Int) × List Int) :=
  r_l1 n444 xs358 xs359 n445 (IntKind.i64.wrap (n446 + 1)) xs366
def s23_r1 (r_l1 : Int → (List (List Int)) → (List (List Int)) → Int → Int → (List Int) → Option ((Unit × Int) × List Int)) (n444 : Int) (xs358 : List (List Int)) (xs359 : List (List Int)) (n445 : Int) (n446 : Int) (tr_ : (Tr Int ((List Int) × Int))) (xs362 : List Int) : Option ((Unit × Int) × List Int) := iterT (fun (d_ : ((List Int) × Int)) (y_ : (Unit × (List Int))) => s23_r1D r_l1 n444 xs358 xs359 n445 n446 d_.1 d_.2 y_.2) (fun (v_ : Int) (t_ : ((List Int) × Int)) (r_ : (Unit × (List Int)) → Option ((Unit × Int) × List Int)) (y_ : (Unit × (List Int))) => s23_r1B (fun xs362 => r_ ((), xs362)) v_ y_.2) tr_ ((), xs362)
def s23_j1F (r1 : Int → (List (List Int)) → (List (List Int)) → Int → Int → (Tr Int ((List Int) × Int)) → (List Int) → Option ((Unit × Int) × List Int)) (n444 : Int) (xs358 : List (List Int)) (xs359 : List (List Int)) (n445 : Int) (n446 : Int) (xs360 : List Int) (n447 : Int) (xs361 : List Int) : Option ((Unit × Int) × List Int) :=
  (s73 xs360 n447).bind fun tr4 =>
  r1 n444 xs358 xs359 n445 n446 tr4 xs361
def s23_j1 (r_l1 : Int → (List (List Int)) → (List (List Int)) → Int → Int → (List Int) → Option ((Unit × Int) × List Int)) (n444 : Int) (xs358 : List (List Int)) (xs359 : List (List Int)) (n445 : Int) (n446 : Int) (xs360 : List Int) (n447 : Int) (xs361 : List Int) : Option ((Unit × Int) × List Int) := s23_j1F (s23_r1 r_l1) n444 xs358 xs359 n445 n446 xs360 n447 xs361
def s23_j2F (r_l2 : Int → (List (List Int)) → Int → Int → (List Int) → Option ((Unit × Int) × List Int)) (n457 : Int) (xs374 : List (List Int)) (n458 : Int) (n459 : Int) (b38 : Bool) (xs375 : List Int) : Option ((Unit × Int) × List Int) :=
  if b38 = true then
  some (((), 80), [])
  else
  r_l2 n457 xs374 n458 (IntKind.i64.wrap (n459 + 1)) xs375
def s23_j2 (r_l2 : Int → (List (List Int)) → Int → Int → (List Int) → Option ((Unit × Int) × List Int)) (n457 : Int) (xs374 : List (List Int)) (n458 : Int) (n459 : Int) (b38 : Bool) (xs375 : List Int) : Option ((Unit × Int) × List Int) := s23_j2F r_l2 n457 xs374 n458 n459 b38 xs375
def s23_l2B (j2 : Int → (List (List Int)) → Int → Int → Bool → (List Int) → Option ((Unit × Int) × List Int)) (n451 : Int) (xs367 : List (List Int)) (n452 : Int) (n453 : Int) (xs368 : List Int) : Option ((Unit × Int) × List Int) :=
  if n453 < n452 then
  (getI xs367 n453).bind fun x22 =>
  (s21 n451 xs368 n453).bind fun y75 =>
  (some y75.1.2).bind fun n454 =>
  (some y75.2).bind fun xs369 =>
  if n454 ≠ 0 then
  j2 n451 xs367 n452 n453 true xs368
  else
  (s52 x22 xs369).bind fun b37 =>
  j2 n451 xs367 n452 n453 (decide (¬ b37 = true)) xs368
  else
  some (((), 0), xs368)
def s23_l2 (n_ : Nat) (n451 : Int) (xs367 : List (List Int)) (n452 : Int) (n453 : Int) (xs368 : List Int) : Option ((Unit × Int) × List Int) := iterL (fun (r_ : ((Int × Unit × (List (List Int)) × Int × Int) × (Unit × (List Int))) → Option ((Unit × Int) × List Int)) (x : ((Int × Unit × (List (List Int)) × Int × Int) × (Unit × (List Int)))) => s23_l2B (s23_j2 (fun n451 xs367 n452 n453 xs368 => r_ ((n451, (), xs367, n452, n453), ((), xs368)))) x.1.1 x.1.2.2.1 x.1.2.2.2.1 x.1.2.2.2.2 x.2.2) n_ ((n451, (), xs367, n452, n453), ((), xs368))
def s23_l1B (j1 : Int → (List (List Int)) → (List (List Int)) → Int → Int → (List Int) → Int → (List Int) → Option ((Unit × Int) × List Int)) (l2 : Int → (List (List Int)) → Int → Int → (List Int) → Option ((Unit × Int) × List Int)) (n440 : Int) (xs354 : List (List Int)) (xs355 : List (List Int)) (n441 : Int) (n442 : Int) (xs356 : List Int) : Option ((Unit × Int) × List Int) :=
  if n442 < n441 then
  (getI xs355 n442).bind fun x21 =>
  (s51 n442 x21).bind fun y74 =>
  (some y74.2.1).bind fun xs357 =>
  (some y74.2.2).bind fun n443 =>
  j1 n440 xs354 xs355 n441 n442 xs357 n443 xs356
  else
  l2 n440 xs354 (xs354.length : Int) 0 xs356
def s23_l1 (n_ : Nat) (n440 : Int) (xs354 : List (List Int)) (xs355 : List (List Int)) (n441 : Int) (n442 : Int) (xs356 : List Int) : Option ((Unit × Int) × List Int) := iterL (fun (r_ : ((Int × (List (List Int)) × Unit × (List (List Int)) × Int × Int) × (Unit × (List Int))) → Option ((Unit × Int) × List Int)) (x : ((Int × (List (List Int)) × Unit × (List (List Int)) × Int × Int) × (Unit × (List Int)))) => s23_l1B (s23_j1 (fun n440 xs354 xs355 n441 n442 xs356 => r_ ((n440, xs354, (), xs355, n441, n442), ((), xs356)))) (s23_l2 FUEL) x.1.1 x.1.2.1 x.1.2.2.2.1 x.1.2.2.2.2.1 x.1.2.2.2.2.2 x.2.2) n_ ((n440, xs354, (), xs355, n441, n442), ((), xs356))
def s23F (l1 : Int → (List (List Int)) → (List (List Int)) → Int → Int → (List Int) → Option ((Unit × Int) × List Int)) (n417 : Int) (xs336 : List (List Int)) : Option ((Unit × Int) × List Int) :=
  (s38 n417).bind fun b35 =>
  if ¬ b35 = true then
  some (((), 1), [])
  else
  (s20 n417).bind fun n418 =>
  if (xs336.length : Int) ≠ n418 then
  some (((), 80), [])
  else
  l1 n417 xs336 xs336 (xs336.length : Int) 0 []
def s23 (n417 : Int) (xs336 : List (List Int)) : Option ((Unit × Int) × List Int) := s23F (s23_l1 FUEL) n417 xs336
/-! ### incipit/incipitlaw08.FreemapBack -/
def s4_l1B (r_l1 : Int → (List Int) → Int → Int → (List (List Int)) → Option Bool) (n413 : Int) (xs332 : List Int) (n414 : Int) (n415 : Int) (xs333 : List (List Int)) : Option Bool :=
  if n415 < n414 then
  (s21 n413 xs332 n415).bind fun y72 =>
  (some y72.1.2).bind fun n416 =>
  (some y72.2).bind fun xs334 =>
  if n416 ≠ 0 then
  if n416 = 1 then
  (s22 n413 xs332).bind fun b34 =>
  some (decide (¬ b34 = true))
  else
  some false
  else
  (appI xs333 ([xs334] : List (List Int)) 24).bind fun xs335 =>
  r_l1 n413 xs332 n414 (IntKind.i64.wrap (n415 + 1)) xs335
  else
  (s23 n413 xs333).bind fun y76 =>
  (some y76.1.2).bind fun n460 =>
  (some y76.2).bind fun xs376 =>
  if (xs333.length : Int) = 0 then
  if n460 = 1 then
  some (decide ((xs376.length : Int) = 0))
  else
  some false
  else
  if n460 = 0 then
  (s19 xs376 xs332).bind fun b39 =>
  some b39
  else
  some false
def s4_l1 (n_ : Nat) (n413 : Int) (xs332 : List Int) (n414 : Int) (n415 : Int) (xs333 : List (List Int)) : Option Bool := iterL (fun (r_ : ((Int × (List Int) × Unit × Int × Int) × (List (List Int))) → Option Bool) (x : ((Int × (List Int) × Unit × Int × Int) × (List (List Int)))) => s4_l1B (fun n413 xs332 n414 n415 xs333 => r_ ((n413, xs332, (), n414, n415), xs333)) x.1.1 x.1.2.1 x.1.2.2.2.1 x.1.2.2.2.2 x.2) n_ ((n413, xs332, (), n414, n415), xs333)
def s4_j1F (l1 : Int → (List Int) → Int → Int → (List (List Int)) → Option Bool) (n391 : Int) (xs317 : List Int) (b26 : Bool) : Option Bool :=
  if b26 = true then
  (s9).bind fun b27 =>
  some b27
  else
  (s20 n391).bind fun n393 =>
  l1 n391 xs317 n393 0 []
def s4_j1 (n391 : Int) (xs317 : List Int) (b26 : Bool) : Option Bool := s4_j1F (s4_l1 FUEL) n391 xs317 b26
def s4F (j1 : Int → (List Int) → Bool → Option Bool) (n1 : Int) (xs1 : List Int) : Option Bool :=
  (s9).bind fun b25 =>
  if ¬ b25 = true then
  j1 n1 xs1 true
  else
  j1 n1 xs1 (decide ((xs1.length : Int) > 5000))
def s4 (n1 : Int) (xs1 : List Int) : Option Bool := s4F s4_j1 n1 xs1
/-! ### incipit/incipitref08.may -/
def s53F (n472 : Int) : Option Bool :=
  if n472 ≥ 8 then
  some (decide (n472 ≤ 2048))
  else
  some false
def s53 (n472 : Int) : Option Bool := s53F n472
/-! ### incipit/incipitref08.Need -/
def s26F (n473 : Int) : Option Int :=
  (s53 n473).bind fun b45 =>
  if ¬ b45 = true then
  some 0
  else
  if (1024 : Int) ≠ 0 then
  some (IntKind.i64.wrap (1 + (IntKind.i64.wrap (Int.tdiv (IntKind.i64.wrap (n473 - 1)) 1024))))
  else none
def s26 (n473 : Int) : Option Int := s26F n473
/-! ### incipit/incipitref08.Put -/
def s24_j2F (r_l1 : (List Int) → Int → Int → (List Int) → Option ((Unit × Int) × List Int)) (xs391 : List Int) (n478 : Int) (n479 : Int) (xs392 : List Int) : Option ((Unit × Int) × List Int) :=
  r_l1 xs391 n478 (IntKind.i64.wrap (n479 + 1)) xs392
def s24_j2 (r_l1 : (List Int) → Int → Int → (List Int) → Option ((Unit × Int) × List Int)) (xs391 : List Int) (n478 : Int) (n479 : Int) (xs392 : List Int) : Option ((Unit × Int) × List Int) := s24_j2F r_l1 xs391 n478 n479 xs392
def s24_l1B (j2 : (List Int) → Int → Int → (List Int) → Option ((Unit × Int) × List Int)) (xs388 : List Int) (n476 : Int) (n477 : Int) (xs389 : List Int) : Option ((Unit × Int) × List Int) :=
  if n477 < (xs388.length : Int) then
  (getI xs388 n477).bind fun x26 =>
  if (1024 : Int) ≠ 0 then
  if (IntKind.i64.wrap (Int.tdiv x26 1024)) = n476 then
  (getI xs388 n477).bind fun x27 =>
  if (1024 : Int) ≠ 0 then
  if (8 : Int) ≠ 0 then
  if 0 ≤ (IntKind.i64.wrap (Int.tdiv (Int.tmod x27 1024) 8)) ∧ (IntKind.i64.wrap (Int.tdiv (Int.tmod x27 1024) 8)) < (xs389.length : Int) then
  (getI xs389 (IntKind.i64.wrap (Int.tdiv (Int.tmod x27 1024) 8))).bind fun x28 =>
  if (8 : Int) ≠ 0 then
  if (0 : Int) ≤ (IntKind.u64.wrap (Int.tmod (Int.tmod x27 1024) 8)) then
  if 0 ≤ (IntKind.i64.wrap (Int.tdiv (Int.tmod x27 1024) 8)) ∧ (IntKind.i64.wrap (Int.tdiv (Int.tmod x27 1024) 8)) < (xs389.length : Int) then
  (setI xs389 (IntKind.i64.wrap (Int.tdiv (Int.tmod x27 1024) 8)) (orI .u8 x28 (shlI .u8 1 (IntKind.u64.wrap (Int.tmod (Int.tmod x27 1024) 8))))).bind fun xs390 =>
  j2 xs388 n476 n477 xs390
  else none
  else none
  else none
  else none
  else none
  else none
  else
  j2 xs388 n476 n477 xs389
  else none
  else
  some (((), 0), xs389)
def s24_l1 (n_ : Nat) (xs388 : List Int) (n476 : Int) (n477 : Int) (xs389 : List Int) : Option ((Unit × Int) × List Int) := iterL (fun (r_ : (((List Int) × Int × Unit × Int) × (List Int)) → Option ((Unit × Int) × List Int)) (x : (((List Int) × Int × Unit × Int) × (List Int))) => s24_l1B (s24_j2 (fun xs388 n476 n477 xs389 => r_ ((xs388, n476, (), n477), xs389))) x.1.1 x.1.2.1 x.1.2.2.2 x.2) n_ ((xs388, n476, (), n477), xs389)
def s24_j1F (l1 : (List Int) → Int → Int → (List Int) → Option ((Unit × Int) × List Int)) (xs386 : List Int) (n475 : Int) (b46 : Bool) : Option ((Unit × Int) × List Int) :=
  if b46 = true then
  some (((), 1), [])
  else
  (repI 240 (0 : Int) 1).bind fun xs387 =>
  l1 xs386 n475 0 xs387
def s24_j1 (xs386 : List Int) (n475 : Int) (b46 : Bool) : Option ((Unit × Int) × List Int) := s24_j1F (s24_l1 FUEL) xs386 n475 b46
def s24F (j1 : (List Int) → Int → Bool → Option ((Unit × Int) × List Int)) (n470 : Int) (xs385 : List Int) (n471 : Int) : Option ((Unit × Int) × List Int) :=
  (s53 n470).bind fun b43 =>
  if ¬ b43 = true then
  j1 xs385 n471 true
  else
  (s22 n470 xs385).bind fun b44 =>
  if ¬ b44 = true then
  j1 xs385 n471 true
  else
  if n471 < 0 then
  j1 xs385 n471 true
  else
  (s26 n470).bind fun n474 =>
  j1 xs385 n471 (decide (n471 ≥ n474))
def s24 (n470 : Int) (xs385 : List Int) (n471 : Int) : Option ((Unit × Int) × List Int) := s24F s24_j1 n470 xs385 n471
/-! ### incipit/incipitref08.Get -/
def s25_j1F (r_l2 : Int → (List (List Int)) → Int → Int → (List Int) → Option ((Unit × Int) × List Int)) (n503 : Int) (xs411 : List (List Int)) (n504 : Int) (n505 : Int) (xs412 : List Int) : Option ((Unit × Int) × List Int) :=
  r_l2 n503 xs411 n504 (IntKind.i64.wrap (n505 + 1)) xs412
def s25_j1 (r_l2 : Int → (List (List Int)) → Int → Int → (List Int) → Option ((Unit × Int) × List Int)) (n503 : Int) (xs411 : List (List Int)) (n504 : Int) (n505 : Int) (xs412 : List Int) : Option ((Unit × Int) × List Int) := s25_j1F r_l2 n503 xs411 n504 n505 xs412
def s25_l2B (j1 : Int → (List (List Int)) → Int → Int → (List Int) → Option ((Unit × Int) × List Int)) (r_l1 : Int → (List (List Int)) → Int → (List Int) → Option ((Unit × Int) × List Int)) (n500 : Int) (xs408 : List (List Int)) (n501 : Int) (n502 : Int) (xs409 : List Int) : Option ((Unit × Int) × List Int) :=
  if n502 < 1024 then
  (getI xs408 n501).bind fun x35 =>
  if (8 : Int) ≠ 0 then
  (getI x35 (IntKind.i64.wrap (Int.tdiv n502 8))).bind fun x36 =>
  if (8 : Int) ≠ 0 then
  if (0 : Int) ≤ (IntKind.u64.wrap (Int.tmod n502 8)) then
  if (2 : Int) ≠ 0 then
  if (Int.tmod (shrI .u8 x36 (IntKind.u64.wrap (Int.tmod n502 8))) 2) = 1 then
  (appI xs409 ([(IntKind.i64.wrap ((IntKind.i64.wrap (n501 * 1024)) + n502))] : List Int) 8).bind fun xs410 =>
  j1 n500 xs408 n501 n502 xs410
  else
  j1 n500 xs408 n501 n502 xs409
  else none
  else none
  else none
  else none
  else
  r_l1 n500 xs408 (IntKind.i64.wrap (n501 + 1)) xs409
def s25_l2 (r_l1 : Int → (List (List Int)) → Int → (List Int) → Option ((Unit × Int) × List Int)) (n_ : Nat) (n500 : Int) (xs408 : List (List Int)) (n501 : Int) (n502 : Int) (xs409 : List Int) : Option ((Unit × Int) × List Int) := iterL (fun (r_ : ((Int × (List (List Int)) × Unit × Int × Int) × (List Int)) → Option ((Unit × Int) × List Int)) (x : ((Int × (List (List Int)) × Unit × Int × Int) × (List Int))) => s25_l2B (s25_j1 (fun n500 xs408 n501 n502 xs409 => r_ ((n500, xs408, (), n501, n502), xs409))) r_l1 x.1.1 x.1.2.1 x.1.2.2.2.1 x.1.2.2.2.2 x.2) n_ ((n500, xs408, (), n501, n502), xs409)
def s25_j2F (r_l3 : Int → (List (List Int)) → Int → (List Int) → Option ((Unit × Int) × List Int)) (n509 : Int) (xs416 : List (List Int)) (n510 : Int) (b48 : Bool) (xs417 : List Int) : Option ((Unit × Int) × List Int) :=
  if b48 = true then
  some (((), 80), [])
  else
  r_l3 n509 xs416 (IntKind.i64.wrap (n510 + 1)) xs417
def s25_j2 (r_l3 : Int → (List (List Int)) → Int → (List Int) → Option ((Unit × Int) × List Int)) (n509 : Int) (xs416 : List (List Int)) (n510 : Int) (b48 : Bool) (xs417 : List Int) : Option ((Unit × Int) × List Int) := s25_j2F r_l3 n509 xs416 n510 b48 xs417
def s25_l3B (j2 : Int → (List (List Int)) → Int → Bool → (List Int) → Option ((Unit × Int) × List Int)) (n506 : Int) (xs413 : List (List Int)) (n507 : Int) (xs414 : List Int) : Option ((Unit × Int) × List Int) :=
  if n507 < (xs413.length : Int) then
  (s24 n506 xs414 n507).bind fun y80 =>
  (some y80.1.2).bind fun n508 =>
  (some y80.2).bind fun xs415 =>
  if n508 ≠ 0 then
  j2 n506 xs413 n507 true xs414
  else
  (getI xs413 n507).bind fun x37 =>
  j2 n506 xs413 n507 (decide ((strOfNums xs415).toList ≠ (strOfNums x37).toList)) xs414
  else
  some (((), 0), xs414)
def s25_l3 (n_ : Nat) (n506 : Int) (xs413 : List (List Int)) (n507 : Int) (xs414 : List Int) : Option ((Unit × Int) × List Int) := iterL (fun (r_ : ((Int × (List (List Int)) × Unit × Int) × (List Int)) → Option ((Unit × Int) × List Int)) (x : ((Int × (List (List Int)) × Unit × Int) × (List Int))) => s25_l3B (s25_j2 (fun n506 xs413 n507 xs414 => r_ ((n506, xs413, (), n507), xs414))) x.1.1 x.1.2.1 x.1.2.2.2 x.2) n_ ((n506, xs413, (), n507), xs414)
def s25_l1B (l2 : Int → (List (List Int)) → Int → Int → (List Int) → Option ((Unit × Int) × List Int)) (l3 : Int → (List (List Int)) → Int → (List Int) → Option ((Unit × Int) × List Int)) (n498 : Int) (xs406 : List (List Int)) (n499 : Int) (xs407 : List Int) : Option ((Unit × Int) × List Int) :=
  if n499 < (xs406.length : Int) then
  (getI xs406 n499).bind fun x34 =>
  if (x34.length : Int) ≠ 240 then
  some (((), 80), [])
  else
  l2 n498 xs406 n499 0 xs407
  else
  l3 n498 xs406 0 xs407
def s25_l1 (n_ : Nat) (n498 : Int) (xs406 : List (List Int)) (n499 : Int) (xs407 : List Int) : Option ((Unit × Int) × List Int) := iterL (fun (r_ : ((Int × (List (List Int)) × Unit × Int) × (List Int)) → Option ((Unit × Int) × List Int)) (x : ((Int × (List (List Int)) × Unit × Int) × (List Int))) => s25_l1B (s25_l2 (fun n498 xs406 n499 xs407 => r_ ((n498, xs406, (), n499), xs407)) FUEL) (s25_l3 FUEL) x.1.1 x.1.2.1 x.1.2.2.2 x.2) n_ ((n498, xs406, (), n499), xs407)
def s25F (l1 : Int → (List (List Int)) → Int → (List Int) → Option ((Unit × Int) × List Int)) (n482 : Int) (xs395 : List (List Int)) : Option ((Unit × Int) × List Int) :=
  (s53 n482).bind fun b47 =>
  if ¬ b47 = true then
  some (((), 1), [])
  else
  (s26 n482).bind fun n483 =>
  if (xs395.length : Int) ≠ n483 then
  some (((), 80), [])
  else
  l1 n482 xs395 0 []
def s25 (n482 : Int) (xs395 : List (List Int)) : Option ((Unit × Int) × List Int) := s25F (s25_l1 FUEL) n482 xs395
/-! ### bytes.Equal -/
def s27F (xs419 : List Int) (xs420 : List Int) : Option Bool :=
  some (decide ((strOfNums xs419).toList = (strOfNums xs420).toList))
def s27 (xs419 : List Int) (xs420 : List Int) : Option Bool := s27F xs419 xs420
/-! ### incipit/incipitlaw08.FreemapPuts -/
def s5_l1B (r_l1 : Int → (List Int) → Int → (List (List Int)) → (List (List Int)) → Int → Int → Option Bool) (n465 : Int) (xs381 : List Int) (n466 : Int) (xs382 : List (List Int)) (xs383 : List (List Int)) (n467 : Int) (n468 : Int) : Option Bool :=
  if n468 < n467 then
  (getI xs383 n468).bind fun x25 =>
  if (x25.length : Int) > 3000 then
  some true
  else
  r_l1 n465 xs381 n466 xs382 xs383 n467 (IntKind.i64.wrap (n468 + 1))
  else
  (s21 n465 xs381 n466).bind fun y77 =>
  (some y77.1.2).bind fun n469 =>
  (some y77.2).bind fun xs384 =>
  (s24 n465 xs381 n466).bind fun y78 =>
  (some y78.1.2).bind fun n480 =>
  (some y78.2).bind fun xs393 =>
  (s23 n465 xs382).bind fun y79 =>
  (some y79.1.2).bind fun n481 =>
  (some y79.2).bind fun xs394 =>
  (s25 n465 xs382).bind fun y81 =>
  (some y81.1.2).bind fun n511 =>
  (some y81.2).bind fun xs418 =>
  (s20 n465).bind fun n512 =>
  (s26 n465).bind fun n513 =>
  if n512 = n513 then
  (s27 xs384 xs393).bind fun b49 =>
  if b49 = true then
  if n469 = n480 then
  (s19 xs394 xs418).bind fun b50 =>
  if b50 = true then
  some (decide (n481 = n511))
  else
  some false
  else
  some false
  else
  some false
  else
  some false
def s5_l1 (n_ : Nat) (n465 : Int) (xs381 : List Int) (n466 : Int) (xs382 : List (List Int)) (xs383 : List (List Int)) (n467 : Int) (n468 : Int) : Option Bool := iterL (fun (r_ : (Int × (List Int) × Int × (List (List Int)) × (List (List Int)) × Int × Int) → Option Bool) (x : (Int × (List Int) × Int × (List (List Int)) × (List (List Int)) × Int × Int)) => s5_l1B (fun n465 xs381 n466 xs382 xs383 n467 n468 => r_ (n465, xs381, n466, xs382, xs383, n467, n468)) x.1 x.2.1 x.2.2.1 x.2.2.2.1 x.2.2.2.2.1 x.2.2.2.2.2.1 x.2.2.2.2.2.2) n_ (n465, xs381, n466, xs382, xs383, n467, n468)
def s5_j1F (l1 : Int → (List Int) → Int → (List (List Int)) → (List (List Int)) → Int → Int → Option Bool) (n463 : Int) (xs379 : List Int) (n464 : Int) (xs380 : List (List Int)) (b41 : Bool) : Option Bool :=
  if b41 = true then
  (s9).bind fun b42 =>
  some b42
  else
  l1 n463 xs379 n464 xs380 xs380 (xs380.length : Int) 0
def s5_j1 (n463 : Int) (xs379 : List Int) (n464 : Int) (xs380 : List (List Int)) (b41 : Bool) : Option Bool := s5_j1F (s5_l1 FUEL) n463 xs379 n464 xs380 b41
def s5F (j1 : Int → (List Int) → Int → (List (List Int)) → Bool → Option Bool) (n461 : Int) (xs377 : List Int) (n462 : Int) (xs378 : List (List Int)) : Option Bool :=
  (s9).bind fun b40 =>
  if ¬ b40 = true then
  j1 n461 xs377 n462 xs378 true
  else
  if (xs377.length : Int) > 5000 then
  j1 n461 xs377 n462 xs378 true
  else
  j1 n461 xs377 n462 xs378 (decide ((xs378.length : Int) > 8))
def s5 (n461 : Int) (xs377 : List Int) (n462 : Int) (xs378 : List (List Int)) : Option Bool := s5F s5_j1 n461 xs377 n462 xs378
end
end Go.Proofs.YtofhmhbffdoiaaaDoor
