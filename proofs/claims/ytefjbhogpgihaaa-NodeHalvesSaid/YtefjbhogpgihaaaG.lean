/- What the functions compute, in plain words of data. -/
import Derived.Test.YtefjbhogpgihaaaH
namespace Go.Proofs.Ytefjbhogpgihaaa
noncomputable section
open Go Go.SX Go.VX
set_option maxRecDepth 100000
set_option linter.unusedVariables false
/-! ### incipit/node.keys -/
def s89F (r4 : T_api_Node) : Option ((Unit × Unit) × (Bool × List T_api_Pair × List (List Int) × List Int)) :=
  some (((), ()), (r4.Leaf, r4.Pairs, r4.Keys, r4.Kids))
def s89 (r4 : T_api_Node) : Option ((Unit × Unit) × (Bool × List T_api_Pair × List (List Int) × List Int)) := s89F r4
/-! ### incipit/node.keys$1 -/
def s108_j1F (r_l1 : (List T_api_Pair) → Int → Int → Bool → (List T_api_Pair) → (List (List Int)) → (List Int) → Option (Tr (List Int) (Bool × List T_api_Pair × List (List Int) × List Int))) (xs17 : List T_api_Pair) (n4 : Int) (n5 : Int) (b7 : Bool) (b8 : Bool) (xs18 : List T_api_Pair) (xs19 : List (List Int)) (xs20 : List Int) : Option (Tr (List Int) (Bool × List T_api_Pair × List (List Int) × List Int)) :=
  if b7 = true then
  some (.done (b8, xs18, xs19, xs20))
  else
  r_l1 xs17 n4 (IntKind.i64.wrap (n5 + 1)) b8 xs18 xs19 xs20
def s108_j1 (r_l1 : (List T_api_Pair) → Int → Int → Bool → (List T_api_Pair) → (List (List Int)) → (List Int) → Option (Tr (List Int) (Bool × List T_api_Pair × List (List Int) × List Int))) (xs17 : List T_api_Pair) (n4 : Int) (n5 : Int) (b7 : Bool) (b8 : Bool) (xs18 : List T_api_Pair) (xs19 : List (List Int)) (xs20 : List Int) : Option (Tr (List Int) (Bool × List T_api_Pair × List (List Int) × List Int)) := s108_j1F r_l1 xs17 n4 n5 b7 b8 xs18 xs19 xs20
def s108_j2F (r_l2 : (List (List Int)) → Int → Int → Bool → (List T_api_Pair) → (List (List Int)) → (List Int) → Option (Tr (List Int) (Bool × List T_api_Pair × List (List Int) × List Int))) (xs25 : List (List Int)) (n8 : Int) (n9 : Int) (b10 : Bool) (b11 : Bool) (xs26 : List T_api_Pair) (xs27 : List (List Int)) (xs28 : List Int) : Option (Tr (List Int) (Bool × List T_api_Pair × List (List Int) × List Int)) :=
  if b10 = true then
  some (.done (b11, xs26, xs27, xs28))
  else
  r_l2 xs25 n8 (IntKind.i64.wrap (n9 + 1)) b11 xs26 xs27 xs28
def s108_j2 (r_l2 : (List (List Int)) → Int → Int → Bool → (List T_api_Pair) → (List (List Int)) → (List Int) → Option (Tr (List Int) (Bool × List T_api_Pair × List (List Int) × List Int))) (xs25 : List (List Int)) (n8 : Int) (n9 : Int) (b10 : Bool) (b11 : Bool) (xs26 : List T_api_Pair) (xs27 : List (List Int)) (xs28 : List Int) : Option (Tr (List Int) (Bool × List T_api_Pair × List (List Int) × List Int)) := s108_j2F r_l2 xs25 n8 n9 b10 b11 xs26 xs27 xs28
def s108_l2B (j2 : (List (List Int)) → Int → Int → Bool → Bool → (List T_api_Pair) → (List (List Int)) → (List Int) → Option (Tr (List Int) (Bool × List T_api_Pair × List (List Int) × List Int))) (xs21 : List (List Int)) (n6 : Int) (n7 : Int) (b9 : Bool) (xs22 : List T_api_Pair) (xs23 : List (List Int)) (xs24 : List Int) : Option (Tr (List Int) (Bool × List T_api_Pair × List (List Int) × List Int)) :=
  if n7 < n6 then
  (getI xs21 n7).bind fun x2 =>
  consT x2 (
  j2 xs21 n6 n7 true b9 xs22 xs23 xs24)
  (j2 xs21 n6 n7 false b9 xs22 xs23 xs24)
  else
  some (.done (b9, xs22, xs23, xs24))
def s108_l2 (n_ : Nat) (xs21 : List (List Int)) (n6 : Int) (n7 : Int) (b9 : Bool) (xs22 : List T_api_Pair) (xs23 : List (List Int)) (xs24 : List Int) : Option (Tr (List Int) (Bool × List T_api_Pair × List (List Int) × List Int)) := iterL (fun (r_ : ((Unit × (List (List Int)) × Int × Int) × (Bool × (List T_api_Pair) × (List (List Int)) × (List Int))) → Option (Tr (List Int) (Bool × List T_api_Pair × List (List Int) × List Int))) (x : ((Unit × (List (List Int)) × Int × Int) × (Bool × (List T_api_Pair) × (List (List Int)) × (List Int)))) => s108_l2B (s108_j2 (fun xs21 n6 n7 b9 xs22 xs23 xs24 => r_ (((), xs21, n6, n7), (b9, xs22, xs23, xs24)))) x.1.2.1 x.1.2.2.1 x.1.2.2.2 x.2.1 x.2.2.1 x.2.2.2.1 x.2.2.2.2) n_ (((), xs21, n6, n7), (b9, xs22, xs23, xs24))
def s108_l1B (j1 : (List T_api_Pair) → Int → Int → Bool → Bool → (List T_api_Pair) → (List (List Int)) → (List Int) → Option (Tr (List Int) (Bool × List T_api_Pair × List (List Int) × List Int))) (l2 : (List (List Int)) → Int → Int → Bool → (List T_api_Pair) → (List (List Int)) → (List Int) → Option (Tr (List Int) (Bool × List T_api_Pair × List (List Int) × List Int))) (xs13 : List T_api_Pair) (n2 : Int) (n3 : Int) (b6 : Bool) (xs14 : List T_api_Pair) (xs15 : List (List Int)) (xs16 : List Int) : Option (Tr (List Int) (Bool × List T_api_Pair × List (List Int) × List Int)) :=
  if n3 < n2 then
  (getI xs13 n3).bind fun x1 =>
  consT x1.Key (
  j1 xs13 n2 n3 true b6 xs14 xs15 xs16)
  (j1 xs13 n2 n3 false b6 xs14 xs15 xs16)
  else
  l2 xs15 (xs15.length : Int) 0 b6 xs14 xs15 xs16
def s108_l1 (n_ : Nat) (xs13 : List T_api_Pair) (n2 : Int) (n3 : Int) (b6 : Bool) (xs14 : List T_api_Pair) (xs15 : List (List Int)) (xs16 : List Int) : Option (Tr (List Int) (Bool × List T_api_Pair × List (List Int) × List Int)) := iterL (fun (r_ : ((Unit × Unit × (List T_api_Pair) × Int × Int) × (Bool × (List T_api_Pair) × (List (List Int)) × (List Int))) → Option (Tr (List Int) (Bool × List T_api_Pair × List (List Int) × List Int))) (x : ((Unit × Unit × (List T_api_Pair) × Int × Int) × (Bool × (List T_api_Pair) × (List (List Int)) × (List Int)))) => s108_l1B (s108_j1 (fun xs13 n2 n3 b6 xs14 xs15 xs16 => r_ (((), (), xs13, n2, n3), (b6, xs14, xs15, xs16)))) (s108_l2 FUEL) x.1.2.2.1 x.1.2.2.2.1 x.1.2.2.2.2 x.2.1 x.2.2.1 x.2.2.2.1 x.2.2.2.2) n_ (((), (), xs13, n2, n3), (b6, xs14, xs15, xs16))
def s108F (l1 : (List T_api_Pair) → Int → Int → Bool → (List T_api_Pair) → (List (List Int)) → (List Int) → Option (Tr (List Int) (Bool × List T_api_Pair × List (List Int) × List Int))) (b5 : Bool) (xs10 : List T_api_Pair) (xs11 : List (List Int)) (xs12 : List Int) : Option (Tr (List Int) (Bool × List T_api_Pair × List (List Int) × List Int)) :=
  l1 xs10 (xs10.length : Int) 0 b5 xs10 xs11 xs12
def s108 (b5 : Bool) (xs10 : List T_api_Pair) (xs11 : List (List Int)) (xs12 : List Int) : Option (Tr (List Int) (Bool × List T_api_Pair × List (List Int) × List Int)) := s108F (s108_l1 FUEL) b5 xs10 xs11 xs12
/-! ### incipit/node.isKey -/
def s78F (xs33 : List Int) : Option Bool :=
  if (xs33.length : Int) > 0 then
  some (decide ((xs33.length : Int) ≤ 25))
  else
  some false
def s78 (xs33 : List Int) : Option Bool := s78F xs33
/-! ### bytes.Compare -/
def s15F (xs40 : List Int) (xs41 : List Int) : Option Int :=
  some (cmpB xs40 xs41)
def s15 (xs40 : List Int) (xs41 : List Int) : Option Int := s15F xs40 xs41
/-! ### incipit/node.rising -/
def s88_j2F (r_r1 : Bool → Bool → (List Int) → Option (Bool × (Bool × List T_api_Pair × List (List Int) × List Int))) (b19 : Bool) (xs36 : List T_api_Pair) (xs37 : List (List Int)) (xs38 : List Int) (xs42 : List Int) (b21 : Bool) (b22 : Bool) (b23 : Bool) (xs43 : List Int) : Option (Bool × (Bool × List T_api_Pair × List (List Int) × List Int)) :=
  if b21 = true then
  some (false, (b19, xs36, xs37, xs38))
  else
  if xs42.length = 0 then none else
  r_r1 b22 false xs42
def s88_j2 (r_r1 : Bool → Bool → (List Int) → Option (Bool × (Bool × List T_api_Pair × List (List Int) × List Int))) (b19 : Bool) (xs36 : List T_api_Pair) (xs37 : List (List Int)) (xs38 : List Int) (xs42 : List Int) (b21 : Bool) (b22 : Bool) (b23 : Bool) (xs43 : List Int) : Option (Bool × (Bool × List T_api_Pair × List (List Int) × List Int)) := s88_j2F r_r1 b19 xs36 xs37 xs38 xs42 b21 b22 b23 xs43
def s88_r1B (j2 : (List Int) → Bool → Bool → Bool → (List Int) → Option (Bool × (Bool × List T_api_Pair × List (List Int) × List Int))) (xs39 : List Int) (b17 : Bool) (b18 : Bool) (xs35 : List Int) : Option (Bool × (Bool × List T_api_Pair × List (List Int) × List Int)) :=
  (s78 xs39).bind fun b20 =>
  if ¬ b20 = true then
  j2 xs39 true b17 b18 xs35
  else
  if (!b18) = true then
  (s15 xs35 xs39).bind fun n10 =>
  j2 xs39 (decide (n10 ≥ 0)) b17 b18 xs35
  else
  j2 xs39 false b17 b18 xs35
def s88_r1D (b24 : Bool) (xs44 : List T_api_Pair) (xs45 : List (List Int)) (xs46 : List Int) (b25 : Bool) (b26 : Bool) (xs47 : List Int) : Option (Bool × (Bool × List T_api_Pair × List (List Int) × List Int)) :=
  some (true, (b24, xs44, xs45, xs46))
def s88_r1 (tr_ : (Tr (List Int) (Bool × (List T_api_Pair) × (List (List Int)) × (List Int)))) (b17 : Bool) (b18 : Bool) (xs35 : List Int) : Option (Bool × (Bool × List T_api_Pair × List (List Int) × List Int)) := iterT (fun (d_ : (Bool × (List T_api_Pair) × (List (List Int)) × (List Int))) (y_ : (Bool × (Bool × (List Int)))) => s88_r1D d_.1 d_.2.1 d_.2.2.1 d_.2.2.2 y_.1 y_.2.1 y_.2.2) (fun (v_ : List Int) (t_ : (Bool × (List T_api_Pair) × (List (List Int)) × (List Int))) (r_ : (Bool × (Bool × (List Int))) → Option (Bool × (Bool × List T_api_Pair × List (List Int) × List Int))) (y_ : (Bool × (Bool × (List Int)))) => s88_r1B (s88_j2 (fun b17 b18 xs35 => r_ (b17, (b18, xs35))) t_.1 t_.2.1 t_.2.2.1 t_.2.2.2) v_ y_.1 y_.2.1 y_.2.2) tr_ (b17, (b18, xs35))
def s88_j1F (r1 : (Tr (List Int) (Bool × (List T_api_Pair) × (List (List Int)) × (List Int))) → Bool → Bool → (List Int) → Option (Bool × (Bool × List T_api_Pair × List (List Int) × List Int))) (b3 : Bool) (xs7 : List T_api_Pair) (xs8 : List (List Int)) (xs9 : List Int) (b4 : Bool) : Option (Bool × (Bool × List T_api_Pair × List (List Int) × List Int)) :=
  (s108 b3 xs7 xs8 xs9).bind fun tr1 =>
  r1 tr1 b4 true []
def s88_j1 (b3 : Bool) (xs7 : List T_api_Pair) (xs8 : List (List Int)) (xs9 : List Int) (b4 : Bool) : Option (Bool × (Bool × List T_api_Pair × List (List Int) × List Int)) := s88_j1F s88_r1 b3 xs7 xs8 xs9 b4
def s88F (j1 : Bool → (List T_api_Pair) → (List (List Int)) → (List Int) → Bool → Option (Bool × (Bool × List T_api_Pair × List (List Int) × List Int))) (b2 : Bool) (xs4 : List T_api_Pair) (xs5 : List (List Int)) (xs6 : List Int) : Option (Bool × (Bool × List T_api_Pair × List (List Int) × List Int)) :=
  j1 b2 xs4 xs5 xs6 false
def s88 (b2 : Bool) (xs4 : List T_api_Pair) (xs5 : List (List Int)) (xs6 : List Int) : Option (Bool × (Bool × List T_api_Pair × List (List Int) × List Int)) := s88F s88_j1 b2 xs4 xs5 xs6
/-! ### incipit/node.may$1 -/
def s91F (r5 : T_api_Pair) : Option Bool :=
  some (decide ((r5.Val.length : Int) > 24))
def s91 (r5 : T_api_Pair) : Option Bool := s91F r5
/-! ### slices.IndexFunc[[]incipit/api.Pair,incipit/api.Pair] -/
def s109_l1B (r_l1 : (List T_api_Pair) → Int → Int → Option Int) (xs53 : List T_api_Pair) (n11 : Int) (n12 : Int) : Option Int :=
  if n12 < n11 then
  (getI xs53 n12).bind fun x3 =>
  (s91 x3).bind fun b29 =>
  if b29 = true then
  some n12
  else
  r_l1 xs53 n11 (IntKind.i64.wrap (n12 + 1))
  else
  some (-1)
def s109_l1 (n_ : Nat) (xs53 : List T_api_Pair) (n11 : Int) (n12 : Int) : Option Int := iterL (fun (r_ : ((List T_api_Pair) × (Unit × Unit) × Int × Int) → Option Int) (x : ((List T_api_Pair) × (Unit × Unit) × Int × Int)) => s109_l1B (fun xs53 n11 n12 => r_ (xs53, ((), ()), n11, n12)) x.1 x.2.2.1 x.2.2.2) n_ (xs53, ((), ()), n11, n12)
def s109F (l1 : (List T_api_Pair) → Int → Int → Option Int) (xs52 : List T_api_Pair) : Option Int :=
  l1 xs52 (xs52.length : Int) 0
def s109 (xs52 : List T_api_Pair) : Option Int := s109F (s109_l1 FUEL) xs52
/-! ### slices.ContainsFunc[[]incipit/api.Pair,incipit/api.Pair] -/
def s90F (xs51 : List T_api_Pair) : Option Bool :=
  (s109 xs51).bind fun n13 =>
  some (decide (n13 ≥ 0))
def s90 (xs51 : List T_api_Pair) : Option Bool := s90F xs51
/-! ### incipit/node.isKid -/
def s83F (n17 : Int) : Option Bool :=
  if n17 ≥ 2 then
  some (decide (n17 < 2048))
  else
  some false
def s83 (n17 : Int) : Option Bool := s83F n17
/-! ### incipit/node.may$2 -/
def s93F (n16 : Int) : Option Bool :=
  (s83 n16).bind fun b31 =>
  some (decide (¬ b31 = true))
def s93 (n16 : Int) : Option Bool := s93F n16
/-! ### slices.IndexFunc[[]int,int] -/
def s110_l1B (r_l1 : (List Int) → Int → Int → Option Int) (xs56 : List Int) (n14 : Int) (n15 : Int) : Option Int :=
  if n15 < n14 then
  (getI xs56 n15).bind fun x4 =>
  (s93 x4).bind fun b32 =>
  if b32 = true then
  some n15
  else
  r_l1 xs56 n14 (IntKind.i64.wrap (n15 + 1))
  else
  some (-1)
def s110_l1 (n_ : Nat) (xs56 : List Int) (n14 : Int) (n15 : Int) : Option Int := iterL (fun (r_ : ((List Int) × (Unit × Unit) × Int × Int) → Option Int) (x : ((List Int) × (Unit × Unit) × Int × Int)) => s110_l1B (fun xs56 n14 n15 => r_ (xs56, ((), ()), n14, n15)) x.1 x.2.2.1 x.2.2.2) n_ (xs56, ((), ()), n14, n15)
def s110F (l1 : (List Int) → Int → Int → Option Int) (xs55 : List Int) : Option Int :=
  l1 xs55 (xs55.length : Int) 0
def s110 (xs55 : List Int) : Option Int := s110F (s110_l1 FUEL) xs55
/-! ### slices.ContainsFunc[[]int,int] -/
def s92F (xs54 : List Int) : Option Bool :=
  (s110 xs54).bind fun n18 =>
  some (decide (n18 ≥ 0))
def s92 (xs54 : List Int) : Option Bool := s92F xs54
/-! ### incipit/node.may -/
def s50F (r3 : T_api_Node) : Option Bool :=
  (s89 r3).bind fun y1 =>
  (some y1.2.1).bind fun b1 =>
  (some y1.2.2.1).bind fun xs1 =>
  (some y1.2.2.2.1).bind fun xs2 =>
  (some y1.2.2.2.2).bind fun xs3 =>
  (s88 b1 xs1 xs2 xs3).bind fun y2 =>
  (some y2.1).bind fun b27 =>
  (some y2.2.1).bind fun b28 =>
  (some y2.2.2.1).bind fun xs48 =>
  (some y2.2.2.2.1).bind fun xs49 =>
  (some y2.2.2.2.2).bind fun xs50 =>
  if ¬ b27 = true then
  some false
  else
  if r3.Leaf = true then
  (s90 r3.Pairs).bind fun b30 =>
  if ¬ b30 = true then
  if (r3.Pairs.length : Int) ≤ 255 then
  some (decide ((IntKind.i64.wrap ((r3.Keys.length : Int) + (r3.Kids.length : Int))) = 0))
  else
  some false
  else
  some false
  else
  (s92 r3.Kids).bind fun b33 =>
  if ¬ b33 = true then
  if (r3.Pairs.length : Int) = 0 then
  if (r3.Keys.length : Int) > 0 then
  if (r3.Keys.length : Int) ≤ 255 then
  some (decide ((r3.Kids.length : Int) = (IntKind.i64.wrap ((r3.Keys.length : Int) + 1))))
  else
  some false
  else
  some false
  else
  some false
  else
  some false
def s50 (r3 : T_api_Node) : Option Bool := s50F r3
/-! ### incipit/node.many -/
def s66F (r6 : T_api_Node) : Option Int :=
  some (IntKind.i64.wrap ((r6.Pairs.length : Int) + (r6.Keys.length : Int)))
def s66 (r6 : T_api_Node) : Option Int := s66F r6
/-! ### incipit/node.halves -/
def s75F (r7 : T_api_Node) (n25 : Int) : Option ((Bool × List T_api_Pair × List (List Int) × List Int) × List Int × (Bool × List T_api_Pair × List (List Int) × List Int)) :=
  if r7.Leaf = true then
  if n25 ≤ n25 ∧ n25 ≤ (r7.Pairs.length : Int) then (cutI r7.Pairs 0 n25).bind fun xs63 =>
  (getI r7.Pairs n25).bind fun x5 =>
  (cutI r7.Pairs n25 r7.Pairs.length).bind fun xs64 =>
  some ((true, xs63, [], []), x5.Key, (true, xs64, [], []))
  else none
  else
  if n25 ≤ n25 ∧ n25 ≤ (r7.Keys.length : Int) then (cutI r7.Keys 0 n25).bind fun xs65 =>
  if (IntKind.i64.wrap (n25 + 1)) ≤ (IntKind.i64.wrap (n25 + 1)) ∧ (IntKind.i64.wrap (n25 + 1)) ≤ (r7.Kids.length : Int) then (cutI r7.Kids 0 (IntKind.i64.wrap (n25 + 1))).bind fun xs66 =>
  (getI r7.Keys n25).bind fun x6 =>
  (cutI r7.Keys (IntKind.i64.wrap (n25 + 1)) r7.Keys.length).bind fun xs67 =>
  (cutI r7.Kids (IntKind.i64.wrap (n25 + 1)) r7.Kids.length).bind fun xs68 =>
  some ((false, [], xs65, xs66), x6, (false, [], xs67, xs68))
  else none
  else none
def s75 (r7 : T_api_Node) (n25 : Int) : Option ((Bool × List T_api_Pair × List (List Int) × List Int) × List Int × (Bool × List T_api_Pair × List (List Int) × List Int)) := s75F r7 n25
/-! ### incipit/node.width -/
def s94F (r9 : T_api_Node) (n31 : Int) : Option Int :=
  if r9.Leaf = true then
  (getI r9.Pairs n31).bind fun x7 =>
  (getI r9.Pairs n31).bind fun x8 =>
  some (IntKind.i64.wrap ((IntKind.i64.wrap (2 + (x7.Key.length : Int))) + (x8.Val.length : Int)))
  else
  (getI r9.Keys n31).bind fun x9 =>
  some (IntKind.i64.wrap (3 + (x9.length : Int)))
def s94 (r9 : T_api_Node) (n31 : Int) : Option Int := s94F r9 n31
/-! ### incipit/node.size -/
def s52_l1B (r_l1 : Int → Int → Int → Bool → (List T_api_Pair) → (List (List Int)) → (List Int) → Option Int) (n28 : Int) (n29 : Int) (n30 : Int) (b44 : Bool) (xs79 : List T_api_Pair) (xs80 : List (List Int)) (xs81 : List Int) : Option Int :=
  if n30 < n29 then
  (s94 (⟨b44, xs79, xs80, xs81⟩ : T_api_Node) n30).bind fun n32 =>
  r_l1 (IntKind.i64.wrap (n28 + n32)) n29 (IntKind.i64.wrap (n30 + 1)) b44 xs79 xs80 xs81
  else
  some n28
def s52_l1 (n_ : Nat) (n28 : Int) (n29 : Int) (n30 : Int) (b44 : Bool) (xs79 : List T_api_Pair) (xs80 : List (List Int)) (xs81 : List Int) : Option Int := iterL (fun (r_ : ((Unit × Int × Int × Int) × (Bool × (List T_api_Pair) × (List (List Int)) × (List Int))) → Option Int) (x : ((Unit × Int × Int × Int) × (Bool × (List T_api_Pair) × (List (List Int)) × (List Int)))) => s52_l1B (fun n28 n29 n30 b44 xs79 xs80 xs81 => r_ (((), n28, n29, n30), (b44, xs79, xs80, xs81))) x.1.2.1 x.1.2.2.1 x.1.2.2.2 x.2.1 x.2.2.1 x.2.2.2.1 x.2.2.2.2) n_ (((), n28, n29, n30), (b44, xs79, xs80, xs81))
def s52_j1F (l1 : Int → Int → Int → Bool → (List T_api_Pair) → (List (List Int)) → (List Int) → Option Int) (n26 : Int) (b43 : Bool) (xs76 : List T_api_Pair) (xs77 : List (List Int)) (xs78 : List Int) : Option Int :=
  (s66 (⟨b43, xs76, xs77, xs78⟩ : T_api_Node)).bind fun n27 =>
  l1 n26 n27 0 b43 xs76 xs77 xs78
def s52_j1 (n26 : Int) (b43 : Bool) (xs76 : List T_api_Pair) (xs77 : List (List Int)) (xs78 : List Int) : Option Int := s52_j1F (s52_l1 FUEL) n26 b43 xs76 xs77 xs78
def s52F (j1 : Int → Bool → (List T_api_Pair) → (List (List Int)) → (List Int) → Option Int) (r8 : T_api_Node) : Option Int :=
  if ¬ r8.Leaf = true then
  j1 3 r8.Leaf r8.Pairs r8.Keys r8.Kids
  else
  j1 1 r8.Leaf r8.Pairs r8.Keys r8.Kids
def s52 (r8 : T_api_Node) : Option Int := s52F s52_j1 r8
/-! ### incipit/node.apart -/
def s76F (n35 : Int) (n36 : Int) : Option Int :=
  some (if (IntKind.i64.wrap (n36 - n35)) > (IntKind.i64.wrap (n35 - n36)) then (IntKind.i64.wrap (n36 - n35)) else (IntKind.i64.wrap (n35 - n36)))
def s76 (n35 : Int) (n36 : Int) : Option Int := s76F n35 n36
/-! ### slices.Clone[[]int,int] -/
def s59_v2F (xs90 : List Int) : Option (Unit × List Int) :=
  (appI ([] : List Int) xs90 8).bind fun xs91 =>
  some ((), xs91)
def s59_v2 (xs90 : List Int) : Option (Unit × List Int) := s59_v2F xs90
/-! ### slices.Clone[[]int,int] -/
def s59_v3F (xs92 : List Int) : Option (Unit × List Int) :=
  some ((), [])
def s59_v3 (xs92 : List Int) : Option (Unit × List Int) := s59_v3F xs92
/-! ### slices.Clone[[]int,int] -/
def s59 (xs : List Int) : Option (Unit × List Int) := if xs.length = 0 then s59_v3 [] else s59_v2 xs
/-! ### slices.Grow[[]byte,byte] -/
def s111_j1F (lo1 : Int) (hi1 : Int) (xs106 : List Int) : Option ((Int × Int) × List Int) :=
  some ((lo1, hi1), xs106)
def s111_j1 (lo1 : Int) (hi1 : Int) (xs106 : List Int) : Option ((Int × Int) × List Int) := s111_j1F lo1 hi1 xs106
def s111F (j1 : Int → Int → (List Int) → Option ((Int × Int) × List Int)) (n53 : Int) : Option ((Int × Int) × List Int) :=
  if n53 < 0 then
  none
  else
  if (IntKind.i64.wrap (n53 - 0)) > 0 then
  if (0 : Int) = 0 then
  (appZI (τ := Int) ([] : List Int) (IntKind.i64.wrap (n53 - 0)) 0 1).bind fun xs105 =>
  if 0 ≤ (0 : Int) ∧ (0 : Int) ≤ (xs105.length : Int) - 0 then
  j1 0 (0 + 0) xs105
  else none
  else none
  else
  j1 0 0 []
def s111 (n53 : Int) : Option ((Int × Int) × List Int) := s111F s111_j1 n53
/-! ### slices.Concat[[]byte,byte] -/
def s95_l2B (r_l2 : Int → Int → (List (List Int)) → Int → Int → (List Int) → Option ((Int × Int) × List Int)) (lo3 : Int) (hi3 : Int) (xs108 : List (List Int)) (n54 : Int) (n55 : Int) (xs109 : List Int) : Option ((Int × Int) × List Int) :=
  if n55 < n54 then
  (getI xs108 n55).bind fun x12 =>
  if lo3 = 0 then (cutI xs109 0 hi3).bind fun xs110 =>
  (appI xs110 x12 1).bind fun xs111 =>
  r_l2 0 (xs111.length : Int) xs108 n54 (IntKind.i64.wrap (n55 + 1)) xs111
  else none
  else
  some ((lo3, hi3), xs109)
def s95_l2 (n_ : Nat) (lo3 : Int) (hi3 : Int) (xs108 : List (List Int)) (n54 : Int) (n55 : Int) (xs109 : List Int) : Option ((Int × Int) × List Int) := iterL (fun (r_ : (((Int × Int) × (List (List Int)) × Int × Int) × (List Int)) → Option ((Int × Int) × List Int)) (x : (((Int × Int) × (List (List Int)) × Int × Int) × (List Int))) => s95_l2B (fun lo3 hi3 xs108 n54 n55 xs109 => r_ (((lo3, hi3), xs108, n54, n55), xs109)) x.1.1.1 x.1.1.2 x.1.2.1 x.1.2.2.1 x.1.2.2.2 x.2) n_ (((lo3, hi3), xs108, n54, n55), xs109)
def s95_l1B (r_l1 : (List (List Int)) → Int → (List (List Int)) → Int → Int → Option ((Int × Int) × List Int)) (l2 : Int → Int → (List (List Int)) → Int → Int → (List Int) → Option ((Int × Int) × List Int)) (xs102 : List (List Int)) (n49 : Int) (xs103 : List (List Int)) (n50 : Int) (n51 : Int) : Option ((Int × Int) × List Int) :=
  if n51 < n50 then
  (getI xs103 n51).bind fun x11 =>
  if (IntKind.i64.wrap (n49 + (x11.length : Int))) < 0 then
  none
  else
  r_l1 xs102 (IntKind.i64.wrap (n49 + (x11.length : Int))) xs103 n50 (IntKind.i64.wrap (n51 + 1))
  else
  (s111 n49).bind fun y5 =>
  (some y5.1.1).bind fun lo2 =>
  (some y5.1.2).bind fun hi2 =>
  (some y5.2).bind fun xs107 =>
  l2 lo2 hi2 xs102 (xs102.length : Int) 0 xs107
def s95_l1 (n_ : Nat) (xs102 : List (List Int)) (n49 : Int) (xs103 : List (List Int)) (n50 : Int) (n51 : Int) : Option ((Int × Int) × List Int) := iterL (fun (r_ : ((List (List Int)) × Int × (List (List Int)) × Int × Int) → Option ((Int × Int) × List Int)) (x : ((List (List Int)) × Int × (List (List Int)) × Int × Int)) => s95_l1B (fun xs102 n49 xs103 n50 n51 => r_ (xs102, n49, xs103, n50, n51)) (s95_l2 FUEL) x.1 x.2.1 x.2.2.1 x.2.2.2.1 x.2.2.2.2) n_ (xs102, n49, xs103, n50, n51)
def s95F (l1 : (List (List Int)) → Int → (List (List Int)) → Int → Int → Option ((Int × Int) × List Int)) (xs101 : List (List Int)) : Option ((Int × Int) × List Int) :=
  l1 xs101 0 xs101 (xs101.length : Int) 0
def s95 (xs101 : List (List Int)) : Option ((Int × Int) × List Int) := s95F (s95_l1 FUEL) xs101
/-! ### incipit/node.own -/
def s60F (xs100 : List Int) : Option ((Int × Int) × List Int) :=
  (s95 ([([] : List Int), xs100] : List (List Int))).bind fun y6 =>
  (some y6.1.1).bind fun lo4 =>
  (some y6.1.2).bind fun hi4 =>
  (some y6.2).bind fun xs112 =>
  some ((lo4, hi4), xs112)
def s60 (xs100 : List Int) : Option ((Int × Int) × List Int) := s60F xs100
/-! ### incipit/node.ownPair -/
def s57F (r11 : T_api_Pair) : Option (((Int × Int) × (Int × Int)) × (List Int × List Int)) :=
  (s60 r11.Key).bind fun y7 =>
  (some y7.1.1).bind fun lo5 =>
  (some y7.1.2).bind fun hi5 =>
  (some y7.2).bind fun xs113 =>
  (s60 r11.Val).bind fun y8 =>
  (some y8.1.1).bind fun lo6 =>
  (some y8.1.2).bind fun hi6 =>
  (some y8.2).bind fun xs114 =>
  some (((lo5, hi5), (lo6, hi6)), (xs113, xs114))
def s57 (r11 : T_api_Pair) : Option (((Int × Int) × (Int × Int)) × (List Int × List Int)) := s57F r11
/-! ### incipit/node.Clone -/
def s25_l2B (r_l2 : (List (List Int)) → Int → Int → Bool → Bool → (List T_api_Pair) → (List (List Int)) → (List Int) → Option ((Bool × Unit × Unit × Unit) × (List T_api_Pair × List (List Int) × List Int))) (xs137 : List (List Int)) (n60 : Int) (n61 : Int) (b60 : Bool) (b61 : Bool) (xs138 : List T_api_Pair) (xs139 : List (List Int)) (xs140 : List Int) : Option ((Bool × Unit × Unit × Unit) × (List T_api_Pair × List (List Int) × List Int)) :=
  if n61 < n60 then
  (getI xs137 n61).bind fun x15 =>
  (s60 x15).bind fun y12 =>
  (some y12.1.1).bind fun lo12 =>
  (some y12.1.2).bind fun hi12 =>
  (some y12.2).bind fun xs141 =>
  (cutI xs141 lo12 hi12).bind fun xs142 =>
  (appI xs139 ([xs142] : List (List Int)) 24).bind fun xs143 =>
  r_l2 xs137 n60 (IntKind.i64.wrap (n61 + 1)) b60 b61 xs138 xs143 xs140
  else
  some ((b61, (), (), ()), (xs138, xs139, xs140))
def s25_l2 (n_ : Nat) (xs137 : List (List Int)) (n60 : Int) (n61 : Int) (b60 : Bool) (b61 : Bool) (xs138 : List T_api_Pair) (xs139 : List (List Int)) (xs140 : List Int) : Option ((Bool × Unit × Unit × Unit) × (List T_api_Pair × List (List Int) × List Int)) := iterL (fun (r_ : ((Unit × Unit × (List (List Int)) × Int × Int) × ((Bool × Unit × Unit × Unit) × (Bool × Unit × Unit × Unit) × (List T_api_Pair) × (List (List Int)) × (List Int))) → Option ((Bool × Unit × Unit × Unit) × (List T_api_Pair × List (List Int) × List Int))) (x : ((Unit × Unit × (List (List Int)) × Int × Int) × ((Bool × Unit × Unit × Unit) × (Bool × Unit × Unit × Unit) × (List T_api_Pair) × (List (List Int)) × (List Int)))) => s25_l2B (fun xs137 n60 n61 b60 b61 xs138 xs139 xs140 => r_ (((), (), xs137, n60, n61), ((b60, (), (), ()), (b61, (), (), ()), xs138, xs139, xs140))) x.1.2.2.1 x.1.2.2.2.1 x.1.2.2.2.2 x.2.1.1 x.2.2.1.1 x.2.2.2.1 x.2.2.2.2.1 x.2.2.2.2.2) n_ (((), (), xs137, n60, n61), ((b60, (), (), ()), (b61, (), (), ()), xs138, xs139, xs140))
def s25_l1B (r_l1 : (List T_api_Pair) → Int → Int → Bool → (List T_api_Pair) → (List (List Int)) → (List Int) → Bool → Bool → (List T_api_Pair) → (List Int) → Option ((Bool × Unit × Unit × Unit) × (List T_api_Pair × List (List Int) × List Int))) (l2 : (List (List Int)) → Int → Int → Bool → Bool → (List T_api_Pair) → (List (List Int)) → (List Int) → Option ((Bool × Unit × Unit × Unit) × (List T_api_Pair × List (List Int) × List Int))) (xs120 : List T_api_Pair) (n56 : Int) (n57 : Int) (b55 : Bool) (xs121 : List T_api_Pair) (xs122 : List (List Int)) (xs123 : List Int) (b56 : Bool) (b57 : Bool) (xs124 : List T_api_Pair) (xs125 : List Int) : Option ((Bool × Unit × Unit × Unit) × (List T_api_Pair × List (List Int) × List Int)) :=
  if n57 < n56 then
  (getI xs120 n57).bind fun x13 =>
  (s57 x13).bind fun y10 =>
  (some y10.1.1.1).bind fun lo9 =>
  (some y10.1.1.2).bind fun hi9 =>
  (some y10.1.2.1).bind fun lo10 =>
  (some y10.1.2.2).bind fun hi10 =>
  (some y10.2.1).bind fun xs126 =>
  (some y10.2.2).bind fun xs127 =>
  (cutI xs126 lo9 hi9).bind fun xs128 =>
  (cutI xs127 lo10 hi10).bind fun xs129 =>
  (appI xs124 ([(⟨xs128, xs129⟩ : T_api_Pair)] : List T_api_Pair) 48).bind fun xs130 =>
  r_l1 xs120 n56 (IntKind.i64.wrap (n57 + 1)) b55 xs121 xs122 xs123 b56 b57 xs130 xs125
  else
  l2 xs122 (xs122.length : Int) 0 b56 b57 xs124 [] xs125
def s25_l1 (n_ : Nat) (xs120 : List T_api_Pair) (n56 : Int) (n57 : Int) (b55 : Bool) (xs121 : List T_api_Pair) (xs122 : List (List Int)) (xs123 : List Int) (b56 : Bool) (b57 : Bool) (xs124 : List T_api_Pair) (xs125 : List Int) : Option ((Bool × Unit × Unit × Unit) × (List T_api_Pair × List (List Int) × List Int)) := iterL (fun (r_ : ((Unit × Unit × Unit × (List T_api_Pair) × Int × Int) × ((Bool × (List T_api_Pair) × (List (List Int)) × (List Int)) × (Bool × Unit × Unit × Unit) × (Bool × Unit × Unit × Unit) × (List T_api_Pair) × (List Int))) → Option ((Bool × Unit × Unit × Unit) × (List T_api_Pair × List (List Int) × List Int))) (x : ((Unit × Unit × Unit × (List T_api_Pair) × Int × Int) × ((Bool × (List T_api_Pair) × (List (List Int)) × (List Int)) × (Bool × Unit × Unit × Unit) × (Bool × Unit × Unit × Unit) × (List T_api_Pair) × (List Int)))) => s25_l1B (fun xs120 n56 n57 b55 xs121 xs122 xs123 b56 b57 xs124 xs125 => r_ (((), (), (), xs120, n56, n57), ((b55, xs121, xs122, xs123), (b56, (), (), ()), (b57, (), (), ()), xs124, xs125))) (s25_l2 FUEL) x.1.2.2.2.1 x.1.2.2.2.2.1 x.1.2.2.2.2.2 x.2.1.1 x.2.1.2.1 x.2.1.2.2.1 x.2.1.2.2.2 x.2.2.1.1 x.2.2.2.1.1 x.2.2.2.2.1 x.2.2.2.2.2) n_ (((), (), (), xs120, n56, n57), ((b55, xs121, xs122, xs123), (b56, (), (), ()), (b57, (), (), ()), xs124, xs125))
def s25F (l1 : (List T_api_Pair) → Int → Int → Bool → (List T_api_Pair) → (List (List Int)) → (List Int) → Bool → Bool → (List T_api_Pair) → (List Int) → Option ((Bool × Unit × Unit × Unit) × (List T_api_Pair × List (List Int) × List Int))) (r10 : T_api_Node) : Option ((Bool × Unit × Unit × Unit) × (List T_api_Pair × List (List Int) × List Int)) :=
  (s59 r10.Kids).bind fun y4 =>
  (some y4.2).bind fun xs94 =>
  l1 r10.Pairs (r10.Pairs.length : Int) 0 r10.Leaf r10.Pairs r10.Keys r10.Kids false r10.Leaf [] xs94
def s25 (r10 : T_api_Node) : Option ((Bool × Unit × Unit × Unit) × (List T_api_Pair × List (List Int) × List Int)) := s25F (s25_l1 FUEL) r10
/-! ### incipit/node.Cut -/
def s35_j3F (r_l1 : Int → Int → Int → Int → Bool → (List T_api_Pair) → (List (List Int)) → (List Int) → Bool → Bool → Option (((Bool × List T_api_Pair × List (List Int) × List Int) × (Int × Int) × (Bool × List T_api_Pair × List (List Int) × List Int) × Int) × List Int)) (n43 : Int) (n44 : Int) (n45 : Int) (n46 : Int) (b49 : Bool) (xs85 : List T_api_Pair) (xs86 : List (List Int)) (xs87 : List Int) (b50 : Bool) (b51 : Bool) : Option (((Bool × List T_api_Pair × List (List Int) × List Int) × (Int × Int) × (Bool × List T_api_Pair × List (List Int) × List Int) × Int) × List Int) :=
  r_l1 n43 n44 n45 (IntKind.i64.wrap (n46 + 1)) b49 xs85 xs86 xs87 b50 b51
def s35_j3 (r_l1 : Int → Int → Int → Int → Bool → (List T_api_Pair) → (List (List Int)) → (List Int) → Bool → Bool → Option (((Bool × List T_api_Pair × List (List Int) × List Int) × (Int × Int) × (Bool × List T_api_Pair × List (List Int) × List Int) × Int) × List Int)) (n43 : Int) (n44 : Int) (n45 : Int) (n46 : Int) (b49 : Bool) (xs85 : List T_api_Pair) (xs86 : List (List Int)) (xs87 : List Int) (b50 : Bool) (b51 : Bool) : Option (((Bool × List T_api_Pair × List (List Int) × List Int) × (Int × Int) × (Bool × List T_api_Pair × List (List Int) × List Int) × Int) × List Int) := s35_j3F r_l1 n43 n44 n45 n46 b49 xs85 xs86 xs87 b50 b51
def s35_j2F (j3 : Int → Int → Int → Int → Bool → (List T_api_Pair) → (List (List Int)) → (List Int) → Bool → Bool → Option (((Bool × List T_api_Pair × List (List Int) × List Int) × (Int × Int) × (Bool × List T_api_Pair × List (List Int) × List Int) × Int) × List Int)) (n38 : Int) (n39 : Int) (n40 : Int) (n41 : Int) (n42 : Int) (b45 : Bool) (b46 : Bool) (xs82 : List T_api_Pair) (xs83 : List (List Int)) (xs84 : List Int) (b47 : Bool) (b48 : Bool) : Option (((Bool × List T_api_Pair × List (List Int) × List Int) × (Int × Int) × (Bool × List T_api_Pair × List (List Int) × List Int) × Int) × List Int) :=
  if b45 = true then
  j3 n38 n42 n41 n41 b46 xs82 xs83 xs84 b47 b48
  else
  j3 n38 n39 n40 n41 b46 xs82 xs83 xs84 b47 b48
def s35_j2 (r_l1 : Int → Int → Int → Int → Bool → (List T_api_Pair) → (List (List Int)) → (List Int) → Bool → Bool → Option (((Bool × List T_api_Pair × List (List Int) × List Int) × (Int × Int) × (Bool × List T_api_Pair × List (List Int) × List Int) × Int) × List Int)) (n38 : Int) (n39 : Int) (n40 : Int) (n41 : Int) (n42 : Int) (b45 : Bool) (b46 : Bool) (xs82 : List T_api_Pair) (xs83 : List (List Int)) (xs84 : List Int) (b47 : Bool) (b48 : Bool) : Option (((Bool × List T_api_Pair × List (List Int) × List Int) × (Int × Int) × (Bool × List T_api_Pair × List (List Int) × List Int) × Int) × List Int) := s35_j2F (s35_j3 r_l1) n38 n39 n40 n41 n42 b45 b46 xs82 xs83 xs84 b47 b48
def s35_l1B (j2 : Int → Int → Int → Int → Int → Bool → Bool → (List T_api_Pair) → (List (List Int)) → (List Int) → Bool → Bool → Option (((Bool × List T_api_Pair × List (List Int) × List Int) × (Int × Int) × (Bool × List T_api_Pair × List (List Int) × List Int) × Int) × List Int)) (n21 : Int) (n22 : Int) (n23 : Int) (n24 : Int) (b38 : Bool) (xs60 : List T_api_Pair) (xs61 : List (List Int)) (xs62 : List Int) (b39 : Bool) (b40 : Bool) : Option (((Bool × List T_api_Pair × List (List Int) × List Int) × (Int × Int) × (Bool × List T_api_Pair × List (List Int) × List Int) × Int) × List Int) :=
  if n24 < n21 then
  (s75 (⟨b38, xs60, xs61, xs62⟩ : T_api_Node) n24).bind fun y3 =>
  (some y3.1.1).bind fun b41 =>
  (some y3.1.2.1).bind fun xs69 =>
  (some y3.1.2.2.1).bind fun xs70 =>
  (some y3.1.2.2.2).bind fun xs71 =>
  (some y3.2.1).bind fun xs72 =>
  (some y3.2.2.1).bind fun b42 =>
  (some y3.2.2.2.1).bind fun xs73 =>
  (some y3.2.2.2.2.1).bind fun xs74 =>
  (some y3.2.2.2.2.2).bind fun xs75 =>
  (s52 (⟨b41, xs69, xs70, xs71⟩ : T_api_Node)).bind fun n33 =>
  (s52 (⟨b42, xs73, xs74, xs75⟩ : T_api_Node)).bind fun n34 =>
  (s76 n33 n34).bind fun n37 =>
  if n23 = 0 then
  j2 n21 n22 n23 n24 n37 true b38 xs60 xs61 xs62 b39 b40
  else
  j2 n21 n22 n23 n24 n37 (decide (n37 < n22)) b38 xs60 xs61 xs62 b39 b40
  else
  if n23 = 0 then
  some (((false, [], [], []), (0, 0), (false, [], [], []), 4), [])
  else
  (s25 (⟨b38, xs60, xs61, xs62⟩ : T_api_Node)).bind fun y13 =>
  (some y13.1.1).bind fun b62 =>
  (some y13.2.1).bind fun xs144 =>
  (some y13.2.2.1).bind fun xs145 =>
  (some y13.2.2.2).bind fun xs146 =>
  (s75 (⟨b62, xs144, xs145, xs146⟩ : T_api_Node) n23).bind fun y14 =>
  (some y14.1.1).bind fun b63 =>
  (some y14.1.2.1).bind fun xs147 =>
  (some y14.1.2.2.1).bind fun xs148 =>
  (some y14.1.2.2.2).bind fun xs149 =>
  (some y14.2.1).bind fun xs150 =>
  (some y14.2.2.1).bind fun b64 =>
  (some y14.2.2.2.1).bind fun xs151 =>
  (some y14.2.2.2.2.1).bind fun xs152 =>
  (some y14.2.2.2.2.2).bind fun xs153 =>
  (s60 xs150).bind fun y15 =>
  (some y15.1.1).bind fun lo13 =>
  (some y15.1.2).bind fun hi13 =>
  (some y15.2).bind fun xs154 =>
  some (((b63, xs147, xs148, xs149), (lo13, hi13), (b64, xs151, xs152, xs153), 0), xs154)
def s35_l1 (n_ : Nat) (n21 : Int) (n22 : Int) (n23 : Int) (n24 : Int) (b38 : Bool) (xs60 : List T_api_Pair) (xs61 : List (List Int)) (xs62 : List Int) (b39 : Bool) (b40 : Bool) : Option (((Bool × List T_api_Pair × List (List Int) × List Int) × (Int × Int) × (Bool × List T_api_Pair × List (List Int) × List Int) × Int) × List Int) := iterL (fun (r_ : ((Unit × Unit × Unit × Int × Int × Int × Int) × ((Bool × (List T_api_Pair) × (List (List Int)) × (List Int)) × (Bool × Unit × Unit × Unit) × (Bool × Unit × Unit × Unit))) → Option (((Bool × List T_api_Pair × List (List Int) × List Int) × (Int × Int) × (Bool × List T_api_Pair × List (List Int) × List Int) × Int) × List Int)) (x : ((Unit × Unit × Unit × Int × Int × Int × Int) × ((Bool × (List T_api_Pair) × (List (List Int)) × (List Int)) × (Bool × Unit × Unit × Unit) × (Bool × Unit × Unit × Unit)))) => s35_l1B (s35_j2 (fun n21 n22 n23 n24 b38 xs60 xs61 xs62 b39 b40 => r_ (((), (), (), n21, n22, n23, n24), ((b38, xs60, xs61, xs62), (b39, (), (), ()), (b40, (), (), ()))))) x.1.2.2.2.1 x.1.2.2.2.2.1 x.1.2.2.2.2.2.1 x.1.2.2.2.2.2.2 x.2.1.1 x.2.1.2.1 x.2.1.2.2.1 x.2.1.2.2.2 x.2.2.1.1 x.2.2.2.1) n_ (((), (), (), n21, n22, n23, n24), ((b38, xs60, xs61, xs62), (b39, (), (), ()), (b40, (), (), ())))
def s35_j1F (l1 : Int → Int → Int → Int → Bool → (List T_api_Pair) → (List (List Int)) → (List Int) → Bool → Bool → Option (((Bool × List T_api_Pair × List (List Int) × List Int) × (Int × Int) × (Bool × List T_api_Pair × List (List Int) × List Int) × Int) × List Int)) (n20 : Int) (b35 : Bool) (xs57 : List T_api_Pair) (xs58 : List (List Int)) (xs59 : List Int) (b36 : Bool) (b37 : Bool) : Option (((Bool × List T_api_Pair × List (List Int) × List Int) × (Int × Int) × (Bool × List T_api_Pair × List (List Int) × List Int) × Int) × List Int) :=
  l1 n20 0 0 1 b35 xs57 xs58 xs59 b36 b37
def s35_j1 (n20 : Int) (b35 : Bool) (xs57 : List T_api_Pair) (xs58 : List (List Int)) (xs59 : List Int) (b36 : Bool) (b37 : Bool) : Option (((Bool × List T_api_Pair × List (List Int) × List Int) × (Int × Int) × (Bool × List T_api_Pair × List (List Int) × List Int) × Int) × List Int) := s35_j1F (s35_l1 FUEL) n20 b35 xs57 xs58 xs59 b36 b37
def s35F (j1 : Int → Bool → (List T_api_Pair) → (List (List Int)) → (List Int) → Bool → Bool → Option (((Bool × List T_api_Pair × List (List Int) × List Int) × (Int × Int) × (Bool × List T_api_Pair × List (List Int) × List Int) × Int) × List Int)) (r2 : T_api_Node) : Option (((Bool × List T_api_Pair × List (List Int) × List Int) × (Int × Int) × (Bool × List T_api_Pair × List (List Int) × List Int) × Int) × List Int) :=
  (s50 r2).bind fun b34 =>
  if ¬ b34 = true then
  some (((false, [], [], []), (0, 0), (false, [], [], []), 100), [])
  else
  (s66 r2).bind fun n19 =>
  if ¬ r2.Leaf = true then
  j1 (IntKind.i64.wrap (n19 - 1)) r2.Leaf r2.Pairs r2.Keys r2.Kids false false
  else
  j1 n19 r2.Leaf r2.Pairs r2.Keys r2.Kids false false
def s35 (r2 : T_api_Node) : Option (((Bool × List T_api_Pair × List (List Int) × List Int) × (Int × Int) × (Bool × List T_api_Pair × List (List Int) × List Int) × Int) × List Int) := s35F s35_j1 r2
/-! ### incipit/node.Check -/
def s26F (r13 : T_api_Node) : Option Int :=
  (s50 r13).bind fun b67 =>
  if ¬ b67 = true then
  some 100
  else
  (s52 r13).bind fun n63 =>
  if n63 > 240 then
  some 3
  else
  some 0
def s26 (r13 : T_api_Node) : Option Int := s26F r13
/-! ### incipit/pack.grown -/
def s98F (xs171 : List Int) (n69 : Int) : Option ((Unit × (Int × Int)) × List Int) :=
  (repI (IntKind.i64.wrap ((xs171.length : Int) + n69)) (0 : Int) 1).bind fun xs172 =>
  (some (copyI xs172 0 (xs172.length : Int) xs171)).bind fun xs173 =>
  (some (if (xs171.length : Int) < (xs172.length : Int) - 0 then (xs171.length : Int) else (xs172.length : Int) - 0)).bind fun n70 =>
  if 0 ≤ (xs171.length : Int) ∧ (xs171.length : Int) ≤ (xs173.length : Int) - 0 then
  some (((), ((0 + (xs171.length : Int)), (xs173.length : Int))), xs173)
  else none
def s98 (xs171 : List Int) (n69 : Int) : Option ((Unit × (Int × Int)) × List Int) := s98F xs171 n69
/-! ### incipit/pack.Text -/
def s96F (xs169 : List Int) (xs170 : List Int) : Option ((Unit × Int) × List Int) :=
  if (xs170.length : Int) > 255 then
  some (((), 3), [])
  else
  (s98 xs169 (IntKind.i64.wrap (1 + (xs170.length : Int)))).bind fun y17 =>
  (some y17.1.2.1).bind fun lo15 =>
  (some y17.1.2.2).bind fun hi15 =>
  (some y17.2).bind fun xs174 =>
  if 0 ≤ (0 : Int) ∧ (0 : Int) < hi15 - lo15 then
  (setI xs174 (lo15 + 0) (IntKind.u8.wrap (xs170.length : Int))).bind fun xs175 =>
  if 0 ≤ (1 : Int) ∧ (1 : Int) ≤ hi15 - lo15 then
  (some (copyI xs175 (lo15 + 1) hi15 xs170)).bind fun xs176 =>
  (some (if (xs170.length : Int) < hi15 - (lo15 + 1) then (xs170.length : Int) else hi15 - (lo15 + 1))).bind fun n71 =>
  some (((), 0), xs176)
  else none
  else none
def s96 (xs169 : List Int) (xs170 : List Int) : Option ((Unit × Int) × List Int) := s96F xs169 xs170
/-! ### incipit/node.text -/
def s67F (xs167 : List Int) (xs168 : List Int) : Option (Unit × List Int) :=
  (s96 xs167 xs168).bind fun y18 =>
  (some y18.1.2).bind fun n72 =>
  (some y18.2).bind fun xs177 =>
  some ((), xs177)
def s67 (xs167 : List Int) (xs168 : List Int) : Option (Unit × List Int) := s67F xs167 xs168
/-! ### incipit/pack.wide -/
def s97_l1B (r_l1 : Int → Int → Int → Int → Int → Int → (List Int) → Option (Unit × List Int)) (n79 : Int) (n80 : Int) (lo17 : Int) (hi17 : Int) (n81 : Int) (n82 : Int) (xs190 : List Int) : Option (Unit × List Int) :=
  if n82 < n81 then
  if (0 : Int) ≤ (IntKind.u64.wrap (IntKind.i64.wrap (8 * n82))) then
  if 0 ≤ (IntKind.i64.wrap ((IntKind.i64.wrap (n80 - 1)) - n82)) ∧ (IntKind.i64.wrap ((IntKind.i64.wrap (n80 - 1)) - n82)) < hi17 - lo17 then
  (setI xs190 (lo17 + (IntKind.i64.wrap ((IntKind.i64.wrap (n80 - 1)) - n82))) (IntKind.u8.wrap (shrI .u64 n79 (IntKind.u64.wrap (IntKind.i64.wrap (8 * n82)))))).bind fun xs191 =>
  r_l1 n79 n80 lo17 hi17 n81 (IntKind.i64.wrap (n82 + 1)) xs191
  else none
  else none
  else
  some ((), xs190)
def s97_l1 (n_ : Nat) (n79 : Int) (n80 : Int) (lo17 : Int) (hi17 : Int) (n81 : Int) (n82 : Int) (xs190 : List Int) : Option (Unit × List Int) := iterL (fun (r_ : ((Int × Int × Unit × (Int × Int) × Int × Int) × (List Int)) → Option (Unit × List Int)) (x : ((Int × Int × Unit × (Int × Int) × Int × Int) × (List Int))) => s97_l1B (fun n79 n80 lo17 hi17 n81 n82 xs190 => r_ ((n79, n80, (), (lo17, hi17), n81, n82), xs190)) x.1.1 x.1.2.1 x.1.2.2.2.1.1 x.1.2.2.2.1.2 x.1.2.2.2.2.1 x.1.2.2.2.2.2 x.2) n_ ((n79, n80, (), (lo17, hi17), n81, n82), xs190)
def s97F (l1 : Int → Int → Int → Int → Int → Int → (List Int) → Option (Unit × List Int)) (xs188 : List Int) (n77 : Int) (n78 : Int) : Option (Unit × List Int) :=
  (s98 xs188 n78).bind fun y23 =>
  (some y23.1.2.1).bind fun lo16 =>
  (some y23.1.2.2).bind fun hi16 =>
  (some y23.2).bind fun xs189 =>
  l1 n77 n78 lo16 hi16 n78 0 xs189
def s97 (xs188 : List Int) (n77 : Int) (n78 : Int) : Option (Unit × List Int) := s97F (s97_l1 FUEL) xs188 n77 n78
/-! ### incipit/pack.U16 -/
def s68F (xs187 : List Int) (n76 : Int) : Option (Unit × List Int) :=
  (s97 xs187 (IntKind.u64.wrap n76) 2).bind fun y24 =>
  (some y24.2).bind fun xs192 =>
  some ((), xs192)
def s68 (xs187 : List Int) (n76 : Int) : Option (Unit × List Int) := s68F xs187 n76
/-! ### incipit/node.Put -/
def s30_l2B (r_l2 : Int → (List (List Int)) → Int → Int → Bool → (List T_api_Pair) → (List (List Int)) → (List Int) → (List Int) → Option ((Int × Unit × Int) × List Int)) (n84 : Int) (xs198 : List (List Int)) (n85 : Int) (n86 : Int) (b71 : Bool) (xs199 : List T_api_Pair) (xs200 : List (List Int)) (xs201 : List Int) (xs202 : List Int) : Option ((Int × Unit × Int) × List Int) :=
  if n86 < n85 then
  (getI xs198 n86).bind fun x19 =>
  (s67 xs202 x19).bind fun y26 =>
  (some y26.2).bind fun xs203 =>
  (getI xs201 (IntKind.i64.wrap (n86 + 1))).bind fun x20 =>
  (s68 xs203 (IntKind.u16.wrap x20)).bind fun y27 =>
  (some y27.2).bind fun xs204 =>
  r_l2 n84 xs198 n85 (IntKind.i64.wrap (n86 + 1)) b71 xs199 xs200 xs201 xs204
  else
  (appZI (τ := Int) xs202 (IntKind.i64.wrap (240 - (xs202.length : Int))) 0 1).bind fun xs205 =>
  some ((n84, (), 0), xs205)
def s30_l2 (n_ : Nat) (n84 : Int) (xs198 : List (List Int)) (n85 : Int) (n86 : Int) (b71 : Bool) (xs199 : List T_api_Pair) (xs200 : List (List Int)) (xs201 : List Int) (xs202 : List Int) : Option ((Int × Unit × Int) × List Int) := iterL (fun (r_ : ((Unit × Unit × Int × (List (List Int)) × Int × Int) × ((Bool × (List T_api_Pair) × (List (List Int)) × (List Int)) × (List Int))) → Option ((Int × Unit × Int) × List Int)) (x : ((Unit × Unit × Int × (List (List Int)) × Int × Int) × ((Bool × (List T_api_Pair) × (List (List Int)) × (List Int)) × (List Int)))) => s30_l2B (fun n84 xs198 n85 n86 b71 xs199 xs200 xs201 xs202 => r_ (((), (), n84, xs198, n85, n86), ((b71, xs199, xs200, xs201), xs202))) x.1.2.2.1 x.1.2.2.2.1 x.1.2.2.2.2.1 x.1.2.2.2.2.2 x.2.1.1 x.2.1.2.1 x.2.1.2.2.1 x.2.1.2.2.2 x.2.2) n_ (((), (), n84, xs198, n85, n86), ((b71, xs199, xs200, xs201), xs202))
def s30_j1F (l2 : Int → (List (List Int)) → Int → Int → Bool → (List T_api_Pair) → (List (List Int)) → (List Int) → (List Int) → Option ((Int × Unit × Int) × List Int)) (n83 : Int) (b70 : Bool) (xs194 : List T_api_Pair) (xs195 : List (List Int)) (xs196 : List Int) (xs197 : List Int) : Option ((Int × Unit × Int) × List Int) :=
  l2 n83 xs195 (xs195.length : Int) 0 b70 xs194 xs195 xs196 xs197
def s30_j1 (n83 : Int) (b70 : Bool) (xs194 : List T_api_Pair) (xs195 : List (List Int)) (xs196 : List Int) (xs197 : List Int) : Option ((Int × Unit × Int) × List Int) := s30_j1F (s30_l2 FUEL) n83 b70 xs194 xs195 xs196 xs197
def s30_l1B (r_l1 : Int → (List T_api_Pair) → Int → Int → Bool → (List T_api_Pair) → (List (List Int)) → (List Int) → (List Int) → Option ((Int × Unit × Int) × List Int)) (j1 : Int → Bool → (List T_api_Pair) → (List (List Int)) → (List Int) → (List Int) → Option ((Int × Unit × Int) × List Int)) (n73 : Int) (xs180 : List T_api_Pair) (n74 : Int) (n75 : Int) (b69 : Bool) (xs181 : List T_api_Pair) (xs182 : List (List Int)) (xs183 : List Int) (xs184 : List Int) : Option ((Int × Unit × Int) × List Int) :=
  if n75 < n74 then
  (getI xs180 n75).bind fun x17 =>
  (s67 xs184 x17.Key).bind fun y21 =>
  (some y21.2).bind fun xs185 =>
  (s67 xs185 x17.Val).bind fun y22 =>
  (some y22.2).bind fun xs186 =>
  r_l1 n73 xs180 n74 (IntKind.i64.wrap (n75 + 1)) b69 xs181 xs182 xs183 xs186
  else
  if ¬ b69 = true then
  (getI xs183 0).bind fun x18 =>
  (s68 xs184 (IntKind.u16.wrap x18)).bind fun y25 =>
  (some y25.2).bind fun xs193 =>
  j1 4 b69 xs181 xs182 xs183 xs193
  else
  j1 n73 b69 xs181 xs182 xs183 xs184
def s30_l1 (n_ : Nat) (n73 : Int) (xs180 : List T_api_Pair) (n74 : Int) (n75 : Int) (b69 : Bool) (xs181 : List T_api_Pair) (xs182 : List (List Int)) (xs183 : List Int) (xs184 : List Int) : Option ((Int × Unit × Int) × List Int) := iterL (fun (r_ : ((Unit × Unit × Int × (List T_api_Pair) × Int × Int) × ((Bool × (List T_api_Pair) × (List (List Int)) × (List Int)) × (List Int))) → Option ((Int × Unit × Int) × List Int)) (x : ((Unit × Unit × Int × (List T_api_Pair) × Int × Int) × ((Bool × (List T_api_Pair) × (List (List Int)) × (List Int)) × (List Int)))) => s30_l1B (fun n73 xs180 n74 n75 b69 xs181 xs182 xs183 xs184 => r_ (((), (), n73, xs180, n74, n75), ((b69, xs181, xs182, xs183), xs184))) s30_j1 x.1.2.2.1 x.1.2.2.2.1 x.1.2.2.2.2.1 x.1.2.2.2.2.2 x.2.1.1 x.2.1.2.1 x.2.1.2.2.1 x.2.1.2.2.2 x.2.2) n_ (((), (), n73, xs180, n74, n75), ((b69, xs181, xs182, xs183), xs184))
def s30F (l1 : Int → (List T_api_Pair) → Int → Int → Bool → (List T_api_Pair) → (List (List Int)) → (List Int) → (List Int) → Option ((Int × Unit × Int) × List Int)) (r12 : T_api_Node) : Option ((Int × Unit × Int) × List Int) :=
  (s26 r12).bind fun n64 =>
  if n64 ≠ 0 then
  some ((0, (), n64), [])
  else
  (s66 r12).bind fun n65 =>
  l1 3 r12.Pairs (r12.Pairs.length : Int) 0 r12.Leaf r12.Pairs r12.Keys r12.Kids ([(IntKind.u8.wrap n65)] : List Int)
def s30 (r12 : T_api_Node) : Option ((Int × Unit × Int) × List Int) := s30F (s30_l1 FUEL) r12
/-! ### bytes.Equal -/
def s34F (xs207 : List Int) (xs208 : List Int) : Option Bool :=
  some (decide ((strOfNums xs207).toList = (strOfNums xs208).toList))
def s34 (xs207 : List Int) (xs208 : List Int) : Option Bool := s34F xs207 xs208
/-! ### incipit/node.ahead -/
def s51_j3F (n94 : Int) : Option Int :=
  some n94
def s51_j3 (n94 : Int) : Option Int := s51_j3F n94
def s51_j2F (r_r1 : (List Int) → Bool → Int → Option Int) (j3 : Int → Option Int) (b82 : Bool) (xs228 : List Int) (b83 : Bool) (n92 : Int) : Option Int :=
  if b82 = true then
  r_r1 xs228 b83 (IntKind.i64.wrap (n92 + 1))
  else
  j3 n92
def s51_j2 (r_r1 : (List Int) → Bool → Int → Option Int) (b82 : Bool) (xs228 : List Int) (b83 : Bool) (n92 : Int) : Option Int := s51_j2F r_r1 s51_j3 b82 xs228 b83 n92
def s51_r1B (j2 : Bool → (List Int) → Bool → Int → Option Int) (xs227 : List Int) (xs223 : List Int) (b80 : Bool) (n90 : Int) : Option Int :=
  (s15 xs227 xs223).bind fun n91 =>
  if n91 < 0 then
  j2 (decide (n91 < 0)) xs223 b80 n90
  else
  if n91 = 0 then
  j2 b80 xs223 b80 n90
  else
  j2 false xs223 b80 n90
def s51_r1D (j3 : Int → Option Int) (b84 : Bool) (xs229 : List T_api_Pair) (xs230 : List (List Int)) (xs231 : List Int) (xs232 : List Int) (b85 : Bool) (n93 : Int) : Option Int :=
  j3 n93
def s51_r1 (tr_ : (Tr (List Int) (Bool × (List T_api_Pair) × (List (List Int)) × (List Int)))) (xs223 : List Int) (b80 : Bool) (n90 : Int) : Option Int := iterT (fun (d_ : (Bool × (List T_api_Pair) × (List (List Int)) × (List Int))) (y_ : ((List Int) × Bool × Int)) => s51_r1D s51_j3 d_.1 d_.2.1 d_.2.2.1 d_.2.2.2 y_.1 y_.2.1 y_.2.2) (fun (v_ : List Int) (t_ : (Bool × (List T_api_Pair) × (List (List Int)) × (List Int))) (r_ : ((List Int) × Bool × Int) → Option Int) (y_ : ((List Int) × Bool × Int)) => s51_r1B (s51_j2 (fun xs223 b80 n90 => r_ (xs223, b80, n90))) v_ y_.1 y_.2.1 y_.2.2) tr_ (xs223, b80, n90)
def s51_j1F (r1 : (Tr (List Int) (Bool × (List T_api_Pair) × (List (List Int)) × (List Int))) → (List Int) → Bool → Int → Option Int) (b78 : Bool) (xs219 : List T_api_Pair) (xs220 : List (List Int)) (xs221 : List Int) (xs222 : List Int) (b79 : Bool) (n89 : Int) : Option Int :=
  (s108 b78 xs219 xs220 xs221).bind fun tr2 =>
  r1 tr2 xs222 b79 n89
def s51_j1 (b78 : Bool) (xs219 : List T_api_Pair) (xs220 : List (List Int)) (xs221 : List Int) (xs222 : List Int) (b79 : Bool) (n89 : Int) : Option Int := s51_j1F s51_r1 b78 xs219 xs220 xs221 xs222 b79 n89
def s51F (j1 : Bool → (List T_api_Pair) → (List (List Int)) → (List Int) → (List Int) → Bool → Int → Option Int) (r15 : T_api_Node) (xs215 : List Int) (b76 : Bool) : Option Int :=
  (s89 r15).bind fun y29 =>
  (some y29.2.1).bind fun b77 =>
  (some y29.2.2.1).bind fun xs216 =>
  (some y29.2.2.2.1).bind fun xs217 =>
  (some y29.2.2.2.2).bind fun xs218 =>
  j1 b77 xs216 xs217 xs218 xs215 b76 0
def s51 (r15 : T_api_Node) (xs215 : List Int) (b76 : Bool) : Option Int := s51F s51_j1 r15 xs215 b76
/-! ### incipit/node.Kid -/
def s13_j1F (xs211 : List Int) (b74 : Bool) (b75 : Bool) (xs212 : List T_api_Pair) (xs213 : List (List Int)) (xs214 : List Int) : Option Int :=
  if b74 = true then
  some 0
  else
  (s51 (⟨b75, xs212, xs213, xs214⟩ : T_api_Node) xs211 true).bind fun n95 =>
  some n95
def s13_j1 (xs211 : List Int) (b74 : Bool) (b75 : Bool) (xs212 : List T_api_Pair) (xs213 : List (List Int)) (xs214 : List Int) : Option Int := s13_j1F xs211 b74 b75 xs212 xs213 xs214
def s13F (j1 : (List Int) → Bool → Bool → (List T_api_Pair) → (List (List Int)) → (List Int) → Option Int) (r14 : T_api_Node) (xs210 : List Int) : Option Int :=
  (s50 r14).bind fun b73 =>
  if ¬ b73 = true then
  j1 xs210 true r14.Leaf r14.Pairs r14.Keys r14.Kids
  else
  j1 xs210 r14.Leaf r14.Leaf r14.Pairs r14.Keys r14.Kids
def s13 (r14 : T_api_Node) (xs210 : List Int) : Option Int := s13F s13_j1 r14 xs210
/-! ### incipit/incipitlaw10.live -/
def s11F : Option Bool :=
  (s30 (⟨true, ([(⟨([97] : List Int), ([7] : List Int)⟩ : T_api_Pair), (⟨([98] : List Int), []⟩ : T_api_Pair)] : List T_api_Pair), [], []⟩ : T_api_Node)).bind fun y28 =>
  (some y28.1.1).bind fun n87 =>
  (some y28.1.2.2).bind fun n88 =>
  (some y28.2).bind fun xs206 =>
  if n88 = 0 then
  if n87 = 3 then
  if (xs206.length : Int) = 240 then
  if 0 ≤ (9 : Int) ∧ (9 : Int) ≤ (xs206.length : Int) - 0 then
  (cutI xs206 0 (0 + 9)).bind fun xs209 =>
  (s34 xs209 ([2, 1, 97, 1, 7, 1, 98, 0, 0] : List Int)).bind fun b72 =>
  if b72 = true then
  (s13 (⟨false, [], ([([98] : List Int)] : List (List Int)), ([5, 6] : List Int)⟩ : T_api_Node) ([98] : List Int)).bind fun n96 =>
  if n96 = 1 then
  (s13 (⟨false, [], ([([98] : List Int)] : List (List Int)), ([5, 6] : List Int)⟩ : T_api_Node) ([97, 122, 122] : List Int)).bind fun n97 =>
  some (decide (n97 = 0))
  else
  some false
  else
  some false
  else none
  else
  some false
  else
  some false
  else
  some false
def s11 : Option Bool := s11F
/-! ### incipit/incipitlaw10.few -/
def s12_j2F (r_l2 : (List T_api_Node) → Int → Int → (List T_api_Pair) → Int → Int → Bool → (List T_api_Pair) → (List (List Int)) → (List Int) → Option Bool) (xs244 : List T_api_Node) (n106 : Int) (n107 : Int) (xs245 : List T_api_Pair) (n108 : Int) (n109 : Int) (b90 : Bool) (b91 : Bool) (xs246 : List T_api_Pair) (xs247 : List (List Int)) (xs248 : List Int) : Option Bool :=
  if b90 = true then
  some false
  else
  r_l2 xs244 n106 n107 xs245 n108 (IntKind.i64.wrap (n109 + 1)) b91 xs246 xs247 xs248
def s12_j2 (r_l2 : (List T_api_Node) → Int → Int → (List T_api_Pair) → Int → Int → Bool → (List T_api_Pair) → (List (List Int)) → (List Int) → Option Bool) (xs244 : List T_api_Node) (n106 : Int) (n107 : Int) (xs245 : List T_api_Pair) (n108 : Int) (n109 : Int) (b90 : Bool) (b91 : Bool) (xs246 : List T_api_Pair) (xs247 : List (List Int)) (xs248 : List Int) : Option Bool := s12_j2F r_l2 xs244 n106 n107 xs245 n108 n109 b90 b91 xs246 xs247 xs248
def s12_l3B (r_l3 : (List T_api_Node) → Int → Int → (List (List Int)) → Int → Int → Option Bool) (r_l1 : (List T_api_Node) → Int → Int → Option Bool) (xs249 : List T_api_Node) (n110 : Int) (n111 : Int) (xs250 : List (List Int)) (n112 : Int) (n113 : Int) : Option Bool :=
  if n113 < n112 then
  (getI xs250 n113).bind fun x23 =>
  if (x23.length : Int) > 300 then
  some false
  else
  r_l3 xs249 n110 n111 xs250 n112 (IntKind.i64.wrap (n113 + 1))
  else
  r_l1 xs249 n110 (IntKind.i64.wrap (n111 + 1))
def s12_l3 (r_l1 : (List T_api_Node) → Int → Int → Option Bool) (n_ : Nat) (xs249 : List T_api_Node) (n110 : Int) (n111 : Int) (xs250 : List (List Int)) (n112 : Int) (n113 : Int) : Option Bool := iterL (fun (r_ : ((List T_api_Node) × Int × Int × (List (List Int)) × Int × Int) → Option Bool) (x : ((List T_api_Node) × Int × Int × (List (List Int)) × Int × Int)) => s12_l3B (fun xs249 n110 n111 xs250 n112 n113 => r_ (xs249, n110, n111, xs250, n112, n113)) r_l1 x.1 x.2.1 x.2.2.1 x.2.2.2.1 x.2.2.2.2.1 x.2.2.2.2.2) n_ (xs249, n110, n111, xs250, n112, n113)
def s12_l2B (j2 : (List T_api_Node) → Int → Int → (List T_api_Pair) → Int → Int → Bool → Bool → (List T_api_Pair) → (List (List Int)) → (List Int) → Option Bool) (l3 : (List T_api_Node) → Int → Int → (List (List Int)) → Int → Int → Option Bool) (xs239 : List T_api_Node) (n102 : Int) (n103 : Int) (xs240 : List T_api_Pair) (n104 : Int) (n105 : Int) (b89 : Bool) (xs241 : List T_api_Pair) (xs242 : List (List Int)) (xs243 : List Int) : Option Bool :=
  if n105 < n104 then
  (getI xs240 n105).bind fun x22 =>
  if (x22.Key.length : Int) > 300 then
  j2 xs239 n102 n103 xs240 n104 n105 true b89 xs241 xs242 xs243
  else
  j2 xs239 n102 n103 xs240 n104 n105 (decide ((x22.Val.length : Int) > 300)) b89 xs241 xs242 xs243
  else
  l3 xs239 n102 n103 xs242 (xs242.length : Int) 0
def s12_l2 (r_l1 : (List T_api_Node) → Int → Int → Option Bool) (n_ : Nat) (xs239 : List T_api_Node) (n102 : Int) (n103 : Int) (xs240 : List T_api_Pair) (n104 : Int) (n105 : Int) (b89 : Bool) (xs241 : List T_api_Pair) (xs242 : List (List Int)) (xs243 : List Int) : Option Bool := iterL (fun (r_ : ((Unit × (List T_api_Node) × Int × Int × (List T_api_Pair) × Int × Int) × (Bool × (List T_api_Pair) × (List (List Int)) × (List Int))) → Option Bool) (x : ((Unit × (List T_api_Node) × Int × Int × (List T_api_Pair) × Int × Int) × (Bool × (List T_api_Pair) × (List (List Int)) × (List Int)))) => s12_l2B (s12_j2 (fun xs239 n102 n103 xs240 n104 n105 b89 xs241 xs242 xs243 => r_ (((), xs239, n102, n103, xs240, n104, n105), (b89, xs241, xs242, xs243)))) (s12_l3 r_l1 FUEL) x.1.2.1 x.1.2.2.1 x.1.2.2.2.1 x.1.2.2.2.2.1 x.1.2.2.2.2.2.1 x.1.2.2.2.2.2.2 x.2.1 x.2.2.1 x.2.2.2.1 x.2.2.2.2) n_ (((), xs239, n102, n103, xs240, n104, n105), (b89, xs241, xs242, xs243))
def s12_j1F (l2 : (List T_api_Node) → Int → Int → (List T_api_Pair) → Int → Int → Bool → (List T_api_Pair) → (List (List Int)) → (List Int) → Option Bool) (xs235 : List T_api_Node) (n100 : Int) (n101 : Int) (b87 : Bool) (b88 : Bool) (xs236 : List T_api_Pair) (xs237 : List (List Int)) (xs238 : List Int) : Option Bool :=
  if b87 = true then
  some false
  else
  l2 xs235 n100 n101 xs236 (xs236.length : Int) 0 b88 xs236 xs237 xs238
def s12_j1 (r_l1 : (List T_api_Node) → Int → Int → Option Bool) (xs235 : List T_api_Node) (n100 : Int) (n101 : Int) (b87 : Bool) (b88 : Bool) (xs236 : List T_api_Pair) (xs237 : List (List Int)) (xs238 : List Int) : Option Bool := s12_j1F (s12_l2 r_l1 FUEL) xs235 n100 n101 b87 b88 xs236 xs237 xs238
def s12_l1B (j1 : (List T_api_Node) → Int → Int → Bool → Bool → (List T_api_Pair) → (List (List Int)) → (List Int) → Option Bool) (xs234 : List T_api_Node) (n98 : Int) (n99 : Int) : Option Bool :=
  if n99 < n98 then
  (getI xs234 n99).bind fun x21 =>
  if (x21.Pairs.length : Int) > 300 then
  j1 xs234 n98 n99 true x21.Leaf x21.Pairs x21.Keys x21.Kids
  else
  if (x21.Keys.length : Int) > 300 then
  j1 xs234 n98 n99 true x21.Leaf x21.Pairs x21.Keys x21.Kids
  else
  j1 xs234 n98 n99 (decide ((x21.Kids.length : Int) > 300)) x21.Leaf x21.Pairs x21.Keys x21.Kids
  else
  some true
def s12_l1 (n_ : Nat) (xs234 : List T_api_Node) (n98 : Int) (n99 : Int) : Option Bool := iterL (fun (r_ : ((List T_api_Node) × Int × Int) → Option Bool) (x : ((List T_api_Node) × Int × Int)) => s12_l1B (s12_j1 (fun xs234 n98 n99 => r_ (xs234, n98, n99))) x.1 x.2.1 x.2.2) n_ (xs234, n98, n99)
def s12F (l1 : (List T_api_Node) → Int → Int → Option Bool) (xs233 : List T_api_Node) : Option Bool :=
  l1 xs233 (xs233.length : Int) 0
def s12 (xs233 : List T_api_Node) : Option Bool := s12F (s12_l1 FUEL) xs233
/-! ### incipit/node.behind -/
def s79F (r18 : T_api_Node) : Option ((Bool × List T_api_Pair × List (List Int) × List Int) × Int) :=
  (s50 r18).bind fun b113 =>
  if ¬ b113 = true then
  some ((false, [], [], []), 100)
  else
  some ((r18.Leaf, r18.Pairs, r18.Keys, r18.Kids), 0)
def s79 (r18 : T_api_Node) : Option ((Bool × List T_api_Pair × List (List Int) × List Int) × Int) := s79F r18
/-! ### incipit/node.Join -/
def s37_j3F (b111 : Bool) (b112 : Bool) (xs288 : List T_api_Pair) (xs289 : List (List Int)) (xs290 : List Int) : Option ((Bool × List T_api_Pair × List (List Int) × List Int) × Int) :=
  (s79 (⟨b112, xs288, xs289, xs290⟩ : T_api_Node)).bind fun y33 =>
  (some y33.1.1).bind fun b114 =>
  (some y33.1.2.1).bind fun xs291 =>
  (some y33.1.2.2.1).bind fun xs292 =>
  (some y33.1.2.2.2).bind fun xs293 =>
  (some y33.2).bind fun n115 =>
  some ((b114, xs291, xs292, xs293), n115)
def s37_j3 (b111 : Bool) (b112 : Bool) (xs288 : List T_api_Pair) (xs289 : List (List Int)) (xs290 : List Int) : Option ((Bool × List T_api_Pair × List (List Int) × List Int) × Int) := s37_j3F b111 b112 xs288 xs289 xs290
def s37_j2F (j3 : Bool → Bool → (List T_api_Pair) → (List (List Int)) → (List Int) → Option ((Bool × List T_api_Pair × List (List Int) × List Int) × Int)) (xs269 : List Int) (b105 : Bool) (b106 : Bool) (xs270 : List T_api_Pair) (xs271 : List (List Int)) (xs272 : List Int) (b107 : Bool) (xs273 : List T_api_Pair) (xs274 : List (List Int)) (xs275 : List Int) (b108 : Bool) : Option ((Bool × List T_api_Pair × List (List Int) × List Int) × Int) :=
  if b105 = true then
  some ((false, [], [], []), 1)
  else
  (s25 (⟨b106, xs270, xs271, xs272⟩ : T_api_Node)).bind fun y30 =>
  (some y30.1.1).bind fun b109 =>
  (some y30.2.1).bind fun xs276 =>
  (some y30.2.2.1).bind fun xs277 =>
  (some y30.2.2.2).bind fun xs278 =>
  (s25 (⟨b107, xs273, xs274, xs275⟩ : T_api_Node)).bind fun y31 =>
  (some y31.1.1).bind fun b110 =>
  (some y31.2.1).bind fun xs279 =>
  (some y31.2.2.1).bind fun xs280 =>
  (some y31.2.2.2).bind fun xs281 =>
  (appI xs276 xs279 48).bind fun xs282 =>
  if ¬ b109 = true then
  (s60 xs269).bind fun y32 =>
  (some y32.1.1).bind fun lo19 =>
  (some y32.1.2).bind fun hi19 =>
  (some y32.2).bind fun xs283 =>
  (cutI xs283 lo19 hi19).bind fun xs284 =>
  (appI xs277 ([xs284] : List (List Int)) 24).bind fun xs285 =>
  (appI xs285 xs280 24).bind fun xs286 =>
  (appI xs278 xs281 8).bind fun xs287 =>
  j3 b108 b109 xs282 xs286 xs287
  else
  j3 b108 b109 xs282 xs277 xs278
def s37_j2 (xs269 : List Int) (b105 : Bool) (b106 : Bool) (xs270 : List T_api_Pair) (xs271 : List (List Int)) (xs272 : List Int) (b107 : Bool) (xs273 : List T_api_Pair) (xs274 : List (List Int)) (xs275 : List Int) (b108 : Bool) : Option ((Bool × List T_api_Pair × List (List Int) × List Int) × Int) := s37_j2F s37_j3 xs269 b105 b106 xs270 xs271 xs272 b107 xs273 xs274 xs275 b108
def s37_j1F (j2 : (List Int) → Bool → Bool → (List T_api_Pair) → (List (List Int)) → (List Int) → Bool → (List T_api_Pair) → (List (List Int)) → (List Int) → Bool → Option ((Bool × List T_api_Pair × List (List Int) × List Int) × Int)) (xs262 : List Int) (b100 : Bool) (b101 : Bool) (xs263 : List T_api_Pair) (xs264 : List (List Int)) (xs265 : List Int) (b102 : Bool) (xs266 : List T_api_Pair) (xs267 : List (List Int)) (xs268 : List Int) (b103 : Bool) : Option ((Bool × List T_api_Pair × List (List Int) × List Int) × Int) :=
  if b100 = true then
  some ((false, [], [], []), 100)
  else
  if ¬ b101 = true then
  (s78 xs262).bind fun b104 =>
  j2 xs262 (decide (¬ b104 = true)) b101 xs263 xs264 xs265 b102 xs266 xs267 xs268 b103
  else
  j2 xs262 false b101 xs263 xs264 xs265 b102 xs266 xs267 xs268 b103
def s37_j1 (xs262 : List Int) (b100 : Bool) (b101 : Bool) (xs263 : List T_api_Pair) (xs264 : List (List Int)) (xs265 : List Int) (b102 : Bool) (xs266 : List T_api_Pair) (xs267 : List (List Int)) (xs268 : List Int) (b103 : Bool) : Option ((Bool × List T_api_Pair × List (List Int) × List Int) × Int) := s37_j1F s37_j2 xs262 b100 b101 xs263 xs264 xs265 b102 xs266 xs267 xs268 b103
def s37F (j1 : (List Int) → Bool → Bool → (List T_api_Pair) → (List (List Int)) → (List Int) → Bool → (List T_api_Pair) → (List (List Int)) → (List Int) → Bool → Option ((Bool × List T_api_Pair × List (List Int) × List Int) × Int)) (r16 : T_api_Node) (xs261 : List Int) (r17 : T_api_Node) : Option ((Bool × List T_api_Pair × List (List Int) × List Int) × Int) :=
  (s50 r16).bind fun b98 =>
  if ¬ b98 = true then
  j1 xs261 true r16.Leaf r16.Pairs r16.Keys r16.Kids r17.Leaf r17.Pairs r17.Keys r17.Kids false
  else
  (s50 r17).bind fun b99 =>
  if ¬ b99 = true then
  j1 xs261 true r16.Leaf r16.Pairs r16.Keys r16.Kids r17.Leaf r17.Pairs r17.Keys r17.Kids false
  else
  j1 xs261 (decide ((r16.Leaf) ≠ (r17.Leaf))) r16.Leaf r16.Pairs r16.Keys r16.Kids r17.Leaf r17.Pairs r17.Keys r17.Kids false
def s37 (r16 : T_api_Node) (xs261 : List Int) (r17 : T_api_Node) : Option ((Bool × List T_api_Pair × List (List Int) × List Int) × Int) := s37F s37_j1 r16 xs261 r17
/-! ### incipit/node.Same$1 -/
def s62F (r21 : T_api_Pair) (r22 : T_api_Pair) : Option Bool :=
  (s34 r21.Key r22.Key).bind fun b116 =>
  if b116 = true then
  (s34 r21.Val r22.Val).bind fun b117 =>
  some b117
  else
  some false
def s62 (r21 : T_api_Pair) (r22 : T_api_Pair) : Option Bool := s62F r21 r22
/-! ### slices.EqualFunc[[]incipit/api.Pair,[]incipit/api.Pair,incipit/api.Pair,incipit/api.Pair] -/
def s63_l1B (r_l1 : (List T_api_Pair) → (List T_api_Pair) → Int → Int → Option Bool) (xs300 : List T_api_Pair) (xs301 : List T_api_Pair) (n117 : Int) (n118 : Int) : Option Bool :=
  if n118 < n117 then
  (getI xs301 n118).bind fun x24 =>
  (getI xs300 n118).bind fun x25 =>
  (s62 x24 x25).bind fun b118 =>
  if ¬ b118 = true then
  some false
  else
  r_l1 xs300 xs301 n117 (IntKind.i64.wrap (n118 + 1))
  else
  some true
def s63_l1 (n_ : Nat) (xs300 : List T_api_Pair) (xs301 : List T_api_Pair) (n117 : Int) (n118 : Int) : Option Bool := iterL (fun (r_ : ((List T_api_Pair) × (Unit × Unit) × (List T_api_Pair) × Int × Int) → Option Bool) (x : ((List T_api_Pair) × (Unit × Unit) × (List T_api_Pair) × Int × Int)) => s63_l1B (fun xs300 xs301 n117 n118 => r_ (xs300, ((), ()), xs301, n117, n118)) x.1 x.2.2.1 x.2.2.2.1 x.2.2.2.2) n_ (xs300, ((), ()), xs301, n117, n118)
def s63F (l1 : (List T_api_Pair) → (List T_api_Pair) → Int → Int → Option Bool) (xs298 : List T_api_Pair) (xs299 : List T_api_Pair) : Option Bool :=
  if (xs298.length : Int) ≠ (xs299.length : Int) then
  some false
  else
  l1 xs299 xs298 (xs298.length : Int) 0
def s63 (xs298 : List T_api_Pair) (xs299 : List T_api_Pair) : Option Bool := s63F (s63_l1 FUEL) xs298 xs299
/-! ### slices.EqualFunc[[][]byte,[][]byte,[]byte,[]byte] -/
def s64_l1B (r_l1 : (List (List Int)) → (List (List Int)) → Int → Int → Option Bool) (xs304 : List (List Int)) (xs305 : List (List Int)) (n119 : Int) (n120 : Int) : Option Bool :=
  if n120 < n119 then
  (getI xs305 n120).bind fun x26 =>
  (getI xs304 n120).bind fun x27 =>
  (s34 x26 x27).bind fun b120 =>
  if ¬ b120 = true then
  some false
  else
  r_l1 xs304 xs305 n119 (IntKind.i64.wrap (n120 + 1))
  else
  some true
def s64_l1 (n_ : Nat) (xs304 : List (List Int)) (xs305 : List (List Int)) (n119 : Int) (n120 : Int) : Option Bool := iterL (fun (r_ : ((List (List Int)) × (Unit × Unit) × (List (List Int)) × Int × Int) → Option Bool) (x : ((List (List Int)) × (Unit × Unit) × (List (List Int)) × Int × Int)) => s64_l1B (fun xs304 xs305 n119 n120 => r_ (xs304, ((), ()), xs305, n119, n120)) x.1 x.2.2.1 x.2.2.2.1 x.2.2.2.2) n_ (xs304, ((), ()), xs305, n119, n120)
def s64F (l1 : (List (List Int)) → (List (List Int)) → Int → Int → Option Bool) (xs302 : List (List Int)) (xs303 : List (List Int)) : Option Bool :=
  if (xs302.length : Int) ≠ (xs303.length : Int) then
  some false
  else
  l1 xs303 xs302 (xs302.length : Int) 0
def s64 (xs302 : List (List Int)) (xs303 : List (List Int)) : Option Bool := s64F (s64_l1 FUEL) xs302 xs303
/-! ### slices.Equal[[]int,int] -/
def s65_l1B (r_l1 : (List Int) → (List Int) → Int → Int → Option Bool) (xs308 : List Int) (xs309 : List Int) (n121 : Int) (n122 : Int) : Option Bool :=
  if n122 < n121 then
  (getI xs308 n122).bind fun x28 =>
  (getI xs309 n122).bind fun x29 =>
  if x28 ≠ x29 then
  some false
  else
  r_l1 xs308 xs309 n121 (IntKind.i64.wrap (n122 + 1))
  else
  some true
def s65_l1 (n_ : Nat) (xs308 : List Int) (xs309 : List Int) (n121 : Int) (n122 : Int) : Option Bool := iterL (fun (r_ : ((List Int) × (List Int) × Int × Int) → Option Bool) (x : ((List Int) × (List Int) × Int × Int)) => s65_l1B (fun xs308 xs309 n121 n122 => r_ (xs308, xs309, n121, n122)) x.1 x.2.1 x.2.2.1 x.2.2.2) n_ (xs308, xs309, n121, n122)
def s65F (l1 : (List Int) → (List Int) → Int → Int → Option Bool) (xs306 : List Int) (xs307 : List Int) : Option Bool :=
  if (xs306.length : Int) ≠ (xs307.length : Int) then
  some false
  else
  l1 xs306 xs307 (xs306.length : Int) 0
def s65 (xs306 : List Int) (xs307 : List Int) : Option Bool := s65F (s65_l1 FUEL) xs306 xs307
/-! ### incipit/node.Same -/
def s29F (r19 : T_api_Node) (r20 : T_api_Node) : Option Bool :=
  if (r19.Leaf) = (r20.Leaf) then
  (s63 r19.Pairs r20.Pairs).bind fun b119 =>
  if b119 = true then
  (s64 r19.Keys r20.Keys).bind fun b121 =>
  if b121 = true then
  (s65 r19.Kids r20.Kids).bind fun b122 =>
  some b122
  else
  some false
  else
  some false
  else
  some false
def s29 (r19 : T_api_Node) (r20 : T_api_Node) : Option Bool := s29F r19 r20
/-! ### incipit/incipitref10.own -/
def s58F (xs324 : List Int) : Option (Unit × List Int) :=
  (appI [] xs324 1).bind fun xs325 =>
  some ((), xs325)
def s58 (xs324 : List Int) : Option (Unit × List Int) := s58F xs324
/-! ### incipit/incipitref10.Clone -/
def s24_l2B (r_l2 : Int → Bool → (List T_api_Pair) → (List (List Int)) → (List Int) → Bool → Bool → (List T_api_Pair) → (List (List Int)) → (List Int) → Option ((Bool × Unit × Unit × Unit) × (List T_api_Pair × List (List Int) × List Int))) (n127 : Int) (b137 : Bool) (xs344 : List T_api_Pair) (xs345 : List (List Int)) (xs346 : List Int) (b138 : Bool) (b139 : Bool) (xs347 : List T_api_Pair) (xs348 : List (List Int)) (xs349 : List Int) : Option ((Bool × Unit × Unit × Unit) × (List T_api_Pair × List (List Int) × List Int)) :=
  if n127 < (xs345.length : Int) then
  (getI xs345 n127).bind fun x35 =>
  (s58 x35).bind fun y40 =>
  (some y40.2).bind fun xs350 =>
  (appI xs348 ([xs350] : List (List Int)) 24).bind fun xs351 =>
  r_l2 (IntKind.i64.wrap (n127 + 1)) b137 xs344 xs345 xs346 b138 b139 xs347 xs351 xs349
  else
  some ((b139, (), (), ()), (xs347, xs348, xs349))
def s24_l2 (n_ : Nat) (n127 : Int) (b137 : Bool) (xs344 : List T_api_Pair) (xs345 : List (List Int)) (xs346 : List Int) (b138 : Bool) (b139 : Bool) (xs347 : List T_api_Pair) (xs348 : List (List Int)) (xs349 : List Int) : Option ((Bool × Unit × Unit × Unit) × (List T_api_Pair × List (List Int) × List Int)) := iterL (fun (r_ : ((Unit × Unit × Unit × Int) × ((Bool × (List T_api_Pair) × (List (List Int)) × (List Int)) × (Bool × Unit × Unit × Unit) × (Bool × Unit × Unit × Unit) × (List T_api_Pair) × (List (List Int)) × (List Int))) → Option ((Bool × Unit × Unit × Unit) × (List T_api_Pair × List (List Int) × List Int))) (x : ((Unit × Unit × Unit × Int) × ((Bool × (List T_api_Pair) × (List (List Int)) × (List Int)) × (Bool × Unit × Unit × Unit) × (Bool × Unit × Unit × Unit) × (List T_api_Pair) × (List (List Int)) × (List Int)))) => s24_l2B (fun n127 b137 xs344 xs345 xs346 b138 b139 xs347 xs348 xs349 => r_ (((), (), (), n127), ((b137, xs344, xs345, xs346), (b138, (), (), ()), (b139, (), (), ()), xs347, xs348, xs349))) x.1.2.2.2 x.2.1.1 x.2.1.2.1 x.2.1.2.2.1 x.2.1.2.2.2 x.2.2.1.1 x.2.2.2.1.1 x.2.2.2.2.1 x.2.2.2.2.2.1 x.2.2.2.2.2.2) n_ (((), (), (), n127), ((b137, xs344, xs345, xs346), (b138, (), (), ()), (b139, (), (), ()), xs347, xs348, xs349))
def s24_l1B (r_l1 : Int → Bool → (List T_api_Pair) → (List (List Int)) → (List Int) → Bool → Bool → (List T_api_Pair) → (List Int) → Option ((Bool × Unit × Unit × Unit) × (List T_api_Pair × List (List Int) × List Int))) (l2 : Int → Bool → (List T_api_Pair) → (List (List Int)) → (List Int) → Bool → Bool → (List T_api_Pair) → (List (List Int)) → (List Int) → Option ((Bool × Unit × Unit × Unit) × (List T_api_Pair × List (List Int) × List Int))) (n125 : Int) (b131 : Bool) (xs329 : List T_api_Pair) (xs330 : List (List Int)) (xs331 : List Int) (b132 : Bool) (b133 : Bool) (xs332 : List T_api_Pair) (xs333 : List Int) : Option ((Bool × Unit × Unit × Unit) × (List T_api_Pair × List (List Int) × List Int)) :=
  if n125 < (xs329.length : Int) then
  (getI xs329 n125).bind fun x32 =>
  (s58 x32.Key).bind fun y37 =>
  (some y37.2).bind fun xs334 =>
  (getI xs329 n125).bind fun x33 =>
  (s58 x33.Val).bind fun y38 =>
  (some y38.2).bind fun xs335 =>
  (appI xs332 ([(⟨xs334, xs335⟩ : T_api_Pair)] : List T_api_Pair) 48).bind fun xs336 =>
  r_l1 (IntKind.i64.wrap (n125 + 1)) b131 xs329 xs330 xs331 b132 b133 xs336 xs333
  else
  l2 0 b131 xs329 xs330 xs331 b132 b133 xs332 [] xs333
def s24_l1 (n_ : Nat) (n125 : Int) (b131 : Bool) (xs329 : List T_api_Pair) (xs330 : List (List Int)) (xs331 : List Int) (b132 : Bool) (b133 : Bool) (xs332 : List T_api_Pair) (xs333 : List Int) : Option ((Bool × Unit × Unit × Unit) × (List T_api_Pair × List (List Int) × List Int)) := iterL (fun (r_ : ((Unit × Unit × Unit × Int) × ((Bool × (List T_api_Pair) × (List (List Int)) × (List Int)) × (Bool × Unit × Unit × Unit) × (Bool × Unit × Unit × Unit) × (List T_api_Pair) × (List Int))) → Option ((Bool × Unit × Unit × Unit) × (List T_api_Pair × List (List Int) × List Int))) (x : ((Unit × Unit × Unit × Int) × ((Bool × (List T_api_Pair) × (List (List Int)) × (List Int)) × (Bool × Unit × Unit × Unit) × (Bool × Unit × Unit × Unit) × (List T_api_Pair) × (List Int)))) => s24_l1B (fun n125 b131 xs329 xs330 xs331 b132 b133 xs332 xs333 => r_ (((), (), (), n125), ((b131, xs329, xs330, xs331), (b132, (), (), ()), (b133, (), (), ()), xs332, xs333))) (s24_l2 FUEL) x.1.2.2.2 x.2.1.1 x.2.1.2.1 x.2.1.2.2.1 x.2.1.2.2.2 x.2.2.1.1 x.2.2.2.1.1 x.2.2.2.2.1 x.2.2.2.2.2) n_ (((), (), (), n125), ((b131, xs329, xs330, xs331), (b132, (), (), ()), (b133, (), (), ()), xs332, xs333))
def s24F (l1 : Int → Bool → (List T_api_Pair) → (List (List Int)) → (List Int) → Bool → Bool → (List T_api_Pair) → (List Int) → Option ((Bool × Unit × Unit × Unit) × (List T_api_Pair × List (List Int) × List Int))) (r23 : T_api_Node) : Option ((Bool × Unit × Unit × Unit) × (List T_api_Pair × List (List Int) × List Int)) :=
  (appI [] r23.Kids 8).bind fun xs319 =>
  l1 0 r23.Leaf r23.Pairs r23.Keys r23.Kids false r23.Leaf [] xs319
def s24 (r23 : T_api_Node) : Option ((Bool × Unit × Unit × Unit) × (List T_api_Pair × List (List Int) × List Int)) := s24F (s24_l1 FUEL) r23
/-! ### incipit/node.Size -/
def s14F (r24 : T_api_Node) : Option Int :=
  (s50 r24).bind fun b148 =>
  if ¬ b148 = true then
  some 0
  else
  (s52 r24).bind fun n132 =>
  some n132
def s14 (r24 : T_api_Node) : Option Int := s14F r24
/-! ### incipit/incipitlaw10.NodeHalves -/
def s8_j4F (b145 : Bool) (b146 : Bool) (xs376 : List T_api_Pair) (xs377 : List (List Int)) (xs378 : List Int) (b147 : Bool) (xs379 : List T_api_Pair) (xs380 : List (List Int)) (xs381 : List Int) : Option Bool :=
  if b145 = true then
  some true
  else
  (s26 (⟨b146, xs376, xs377, xs378⟩ : T_api_Node)).bind fun n130 =>
  if n130 = 0 then
  (s26 (⟨b147, xs379, xs380, xs381⟩ : T_api_Node)).bind fun n131 =>
  if n131 = 0 then
  (s14 (⟨b146, xs376, xs377, xs378⟩ : T_api_Node)).bind fun n133 =>
  if n133 ≥ 60 then
  (s14 (⟨b147, xs379, xs380, xs381⟩ : T_api_Node)).bind fun n134 =>
  some (decide (n134 ≥ 60))
  else
  some false
  else
  some false
  else
  some false
def s8_j4 (b145 : Bool) (b146 : Bool) (xs376 : List T_api_Pair) (xs377 : List (List Int)) (xs378 : List Int) (b147 : Bool) (xs379 : List T_api_Pair) (xs380 : List (List Int)) (xs381 : List Int) : Option Bool := s8_j4F b145 b146 xs376 xs377 xs378 b147 xs379 xs380 xs381
def s8_j3F (j4 : Bool → Bool → (List T_api_Pair) → (List (List Int)) → (List Int) → Bool → (List T_api_Pair) → (List (List Int)) → (List Int) → Option Bool) (b141 : Bool) (xs364 : List T_api_Pair) (xs365 : List (List Int)) (xs366 : List Int) (b142 : Bool) (xs367 : List T_api_Pair) (xs368 : List (List Int)) (xs369 : List Int) (b143 : Bool) (xs370 : List T_api_Pair) (xs371 : List (List Int)) (xs372 : List Int) (b144 : Bool) (xs373 : List T_api_Pair) (xs374 : List (List Int)) (xs375 : List Int) : Option Bool :=
  (s26 (⟨b141, xs364, xs365, xs366⟩ : T_api_Node)).bind fun n128 =>
  if n128 ≠ 3 then
  j4 true b142 xs367 xs368 xs369 b143 xs370 xs371 xs372
  else
  (s26 (⟨b144, xs373, xs374, xs375⟩ : T_api_Node)).bind fun n129 =>
  j4 (decide (n129 ≠ 0)) b142 xs367 xs368 xs369 b143 xs370 xs371 xs372
def s8_j3 (b141 : Bool) (xs364 : List T_api_Pair) (xs365 : List (List Int)) (xs366 : List Int) (b142 : Bool) (xs367 : List T_api_Pair) (xs368 : List (List Int)) (xs369 : List Int) (b143 : Bool) (xs370 : List T_api_Pair) (xs371 : List (List Int)) (xs372 : List Int) (b144 : Bool) (xs373 : List T_api_Pair) (xs374 : List (List Int)) (xs375 : List Int) : Option Bool := s8_j3F s8_j4 b141 xs364 xs365 xs366 b142 xs367 xs368 xs369 b143 xs370 xs371 xs372 b144 xs373 xs374 xs375
def s8_j2F (j3 : Bool → (List T_api_Pair) → (List (List Int)) → (List Int) → Bool → (List T_api_Pair) → (List (List Int)) → (List Int) → Bool → (List T_api_Pair) → (List (List Int)) → (List Int) → Bool → (List T_api_Pair) → (List (List Int)) → (List Int) → Option Bool) (n123 : Int) (b124 : Bool) (b125 : Bool) (xs310 : List T_api_Pair) (xs311 : List (List Int)) (xs312 : List Int) (b126 : Bool) (xs313 : List T_api_Pair) (xs314 : List (List Int)) (xs315 : List Int) (b127 : Bool) (xs316 : List T_api_Pair) (xs317 : List (List Int)) (xs318 : List Int) : Option Bool :=
  if b124 = true then
  some false
  else
  (s24 (⟨b125, xs310, xs311, xs312⟩ : T_api_Node)).bind fun y41 =>
  (some y41.1.1).bind fun b140 =>
  (some y41.2.1).bind fun xs352 =>
  (some y41.2.2.1).bind fun xs353 =>
  (some y41.2.2.2).bind fun xs354 =>
  if b125 = true then
  if (xs310.length : Int) ≠ 0 then
  if 0 ≤ (Int.tmod (IntKind.i64.wrap n123) (xs310.length : Int)) ∧ (Int.tmod (IntKind.i64.wrap n123) (xs310.length : Int)) ≤ (xs352.length : Int) - 0 then
  if 0 ≤ (IntKind.i64.wrap ((Int.tmod (IntKind.i64.wrap n123) (xs310.length : Int)) + 1)) ∧ (IntKind.i64.wrap ((Int.tmod (IntKind.i64.wrap n123) (xs310.length : Int)) + 1)) ≤ (xs352.length : Int) - 0 then
  (cutI xs352 (0 + (IntKind.i64.wrap ((Int.tmod (IntKind.i64.wrap n123) (xs310.length : Int)) + 1))) (xs352.length : Int)).bind fun xs355 =>
  if (0 : Int) = 0 then (cutI xs352 0 (0 + (Int.tmod (IntKind.i64.wrap n123) (xs310.length : Int)))).bind fun xs356 =>
  (appI xs356 xs355 48).bind fun xs357 =>
  j3 b125 xs310 xs311 xs312 b126 xs313 xs314 xs315 b127 xs316 xs317 xs318 b140 xs357 xs353 xs354
  else none
  else none
  else none
  else none
  else
  if (xs311.length : Int) ≠ 0 then
  if 0 ≤ (Int.tmod (IntKind.i64.wrap n123) (xs311.length : Int)) ∧ (Int.tmod (IntKind.i64.wrap n123) (xs311.length : Int)) ≤ (xs353.length : Int) - 0 then
  if 0 ≤ (IntKind.i64.wrap ((Int.tmod (IntKind.i64.wrap n123) (xs311.length : Int)) + 1)) ∧ (IntKind.i64.wrap ((Int.tmod (IntKind.i64.wrap n123) (xs311.length : Int)) + 1)) ≤ (xs353.length : Int) - 0 then
  (cutI xs353 (0 + (IntKind.i64.wrap ((Int.tmod (IntKind.i64.wrap n123) (xs311.length : Int)) + 1))) (xs353.length : Int)).bind fun xs358 =>
  if (0 : Int) = 0 then (cutI xs353 0 (0 + (Int.tmod (IntKind.i64.wrap n123) (xs311.length : Int)))).bind fun xs359 =>
  (appI xs359 xs358 24).bind fun xs360 =>
  if 0 ≤ (IntKind.i64.wrap ((Int.tmod (IntKind.i64.wrap n123) (xs311.length : Int)) + 1)) ∧ (IntKind.i64.wrap ((Int.tmod (IntKind.i64.wrap n123) (xs311.length : Int)) + 1)) ≤ (xs354.length : Int) - 0 then
  if 0 ≤ (IntKind.i64.wrap ((Int.tmod (IntKind.i64.wrap n123) (xs311.length : Int)) + 2)) ∧ (IntKind.i64.wrap ((Int.tmod (IntKind.i64.wrap n123) (xs311.length : Int)) + 2)) ≤ (xs354.length : Int) - 0 then
  (cutI xs354 (0 + (IntKind.i64.wrap ((Int.tmod (IntKind.i64.wrap n123) (xs311.length : Int)) + 2))) (xs354.length : Int)).bind fun xs361 =>
  if (0 : Int) = 0 then (cutI xs354 0 (0 + (IntKind.i64.wrap ((Int.tmod (IntKind.i64.wrap n123) (xs311.length : Int)) + 1)))).bind fun xs362 =>
  (appI xs362 xs361 8).bind fun xs363 =>
  j3 b125 xs310 xs311 xs312 b126 xs313 xs314 xs315 b127 xs316 xs317 xs318 b140 xs352 xs360 xs363
  else none
  else none
  else none
  else none
  else none
  else none
  else none
def s8_j2 (n123 : Int) (b124 : Bool) (b125 : Bool) (xs310 : List T_api_Pair) (xs311 : List (List Int)) (xs312 : List Int) (b126 : Bool) (xs313 : List T_api_Pair) (xs314 : List (List Int)) (xs315 : List Int) (b127 : Bool) (xs316 : List T_api_Pair) (xs317 : List (List Int)) (xs318 : List Int) : Option Bool := s8_j2F s8_j3 n123 b124 b125 xs310 xs311 xs312 b126 xs313 xs314 xs315 b127 xs316 xs317 xs318
def s8_j1F (j2 : Int → Bool → Bool → (List T_api_Pair) → (List (List Int)) → (List Int) → Bool → (List T_api_Pair) → (List (List Int)) → (List Int) → Bool → (List T_api_Pair) → (List (List Int)) → (List Int) → Option Bool) (n114 : Int) (lo18 : Int) (hi18 : Int) (b93 : Bool) (b94 : Bool) (xs251 : List T_api_Pair) (xs252 : List (List Int)) (xs253 : List Int) (b95 : Bool) (xs254 : List T_api_Pair) (xs255 : List (List Int)) (xs256 : List Int) (xs257 : List Int) (b96 : Bool) (xs258 : List T_api_Pair) (xs259 : List (List Int)) (xs260 : List Int) : Option Bool :=
  if b93 = true then
  (s11).bind fun b97 =>
  some b97
  else
  (cutI xs257 lo18 hi18).bind fun xs294 =>
  (s37 (⟨b95, xs254, xs255, xs256⟩ : T_api_Node) xs294 (⟨b96, xs258, xs259, xs260⟩ : T_api_Node)).bind fun y34 =>
  (some y34.1.1).bind fun b115 =>
  (some y34.1.2.1).bind fun xs295 =>
  (some y34.1.2.2.1).bind fun xs296 =>
  (some y34.1.2.2.2).bind fun xs297 =>
  (some y34.2).bind fun n116 =>
  if n116 ≠ 0 then
  j2 n114 true b94 xs251 xs252 xs253 b95 xs254 xs255 xs256 b96 xs258 xs259 xs260
  else
  (s29 (⟨b115, xs295, xs296, xs297⟩ : T_api_Node) (⟨b94, xs251, xs252, xs253⟩ : T_api_Node)).bind fun b123 =>
  j2 n114 (decide (¬ b123 = true)) b94 xs251 xs252 xs253 b95 xs254 xs255 xs256 b96 xs258 xs259 xs260
def s8_j1 (n114 : Int) (lo18 : Int) (hi18 : Int) (b93 : Bool) (b94 : Bool) (xs251 : List T_api_Pair) (xs252 : List (List Int)) (xs253 : List Int) (b95 : Bool) (xs254 : List T_api_Pair) (xs255 : List (List Int)) (xs256 : List Int) (xs257 : List Int) (b96 : Bool) (xs258 : List T_api_Pair) (xs259 : List (List Int)) (xs260 : List Int) : Option Bool := s8_j1F s8_j2 n114 lo18 hi18 b93 b94 xs251 xs252 xs253 b95 xs254 xs255 xs256 xs257 b96 xs258 xs259 xs260
def s8F (j1 : Int → Int → Int → Bool → Bool → (List T_api_Pair) → (List (List Int)) → (List Int) → Bool → (List T_api_Pair) → (List (List Int)) → (List Int) → (List Int) → Bool → (List T_api_Pair) → (List (List Int)) → (List Int) → Option Bool) (r1 : T_api_Node) (n1 : Int) : Option Bool :=
  (s35 r1).bind fun y16 =>
  (some y16.1.1.1).bind fun b65 =>
  (some y16.1.1.2.1).bind fun xs155 =>
  (some y16.1.1.2.2.1).bind fun xs156 =>
  (some y16.1.1.2.2.2).bind fun xs157 =>
  (some y16.1.2.1.1).bind fun lo14 =>
  (some y16.1.2.1.2).bind fun hi14 =>
  (some y16.1.2.2.1.1).bind fun b66 =>
  (some y16.1.2.2.1.2.1).bind fun xs158 =>
  (some y16.1.2.2.1.2.2.1).bind fun xs159 =>
  (some y16.1.2.2.1.2.2.2).bind fun xs160 =>
  (some y16.1.2.2.2).bind fun n62 =>
  (some y16.2).bind fun xs161 =>
  (s11).bind fun b86 =>
  if ¬ b86 = true then
  j1 n1 lo14 hi14 true r1.Leaf r1.Pairs r1.Keys r1.Kids b65 xs155 xs156 xs157 xs161 b66 xs158 xs159 xs160
  else
  (s12 ([r1] : List T_api_Node)).bind fun b92 =>
  if ¬ b92 = true then
  j1 n1 lo14 hi14 true r1.Leaf r1.Pairs r1.Keys r1.Kids b65 xs155 xs156 xs157 xs161 b66 xs158 xs159 xs160
  else
  j1 n1 lo14 hi14 (decide (n62 ≠ 0)) r1.Leaf r1.Pairs r1.Keys r1.Kids b65 xs155 xs156 xs157 xs161 b66 xs158 xs159 xs160
def s8 (r1 : T_api_Node) (n1 : Int) : Option Bool := s8F s8_j1 r1 n1
end
end Go.Proofs.Ytefjbhogpgihaaa
