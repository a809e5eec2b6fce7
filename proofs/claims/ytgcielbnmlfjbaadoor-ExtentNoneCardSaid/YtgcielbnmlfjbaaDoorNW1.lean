/- PRINTED BY sy.py: each call computes what the plain function of its number tells. -/
import Derived.Test.YtgcielbnmlfjbaaDoorTab
import Derived.Test.YtgcielbnmlfjbaaDoorSXs
import Derived.Test.YtgcielbnmlfjbaaDoorNG
namespace Go.Proofs.YtgcielbnmlfjbaaDoor
open Go Go.SX Go.RowKit
set_option maxRecDepth 100000
set_option linter.unusedVariables false
def rp_T_extent_Set : Rp T_extent_Set := Rp.iso (fun x => (x.n, x.w)) (Rp.pair (Rp.int .i64) (Rp.slice (Rp.int .u64)))
attribute [local irreducible] WPK RW RD Ret SX.Fin SX.Any opK RoundBeg RoundEnd RangeEnd Rounds
theorem en12 : Proofs.Enters Tryd.prog 12 := Proofs.enters_of Tryd.func12 (by kernel_rfl) rfl
theorem en11 : Proofs.Enters Tryd.prog 11 := Proofs.enters_of Tryd.func11 (by kernel_rfl) rfl
theorem en31 : Proofs.Enters Tryd.prog 31 := Proofs.enters_of Tryd.func31 (by kernel_rfl) rfl
theorem en34 : Proofs.Enters Tryd.prog 34 := Proofs.enters_of Tryd.func34 (by kernel_rfl) rfl
theorem en21 : Proofs.Enters Tryd.prog 21 := Proofs.enters_of Tryd.func21 (by kernel_rfl) rfl
theorem en16 : Proofs.Enters Tryd.prog 16 := Proofs.enters_of Tryd.func16 (by kernel_rfl) rfl
theorem en27 : Proofs.Enters Tryd.prog 27 := Proofs.enters_of Tryd.func27 (by kernel_rfl) rfl
theorem en17 : Proofs.Enters Tryd.prog 17 := Proofs.enters_of Tryd.func17 (by kernel_rfl) rfl
theorem en14 : Proofs.Enters Tryd.prog 14 := Proofs.enters_of Tryd.func14 (by kernel_rfl) rfl
theorem en32 : Proofs.Enters Tryd.prog 32 := Proofs.enters_of Tryd.func32 (by kernel_rfl) rfl
theorem en13 : Proofs.Enters Tryd.prog 13 := Proofs.enters_of Tryd.func13 (by kernel_rfl) rfl
theorem en22 : Proofs.Enters Tryd.prog 22 := Proofs.enters_of Tryd.func22 (by kernel_rfl) rfl
theorem en23 : Proofs.Enters Tryd.prog 23 := Proofs.enters_of Tryd.func23 (by kernel_rfl) rfl
theorem en15 : Proofs.Enters Tryd.prog 15 := Proofs.enters_of Tryd.func15 (by kernel_rfl) rfl
theorem en29 : Proofs.Enters Tryd.prog 29 := Proofs.enters_of Tryd.func29 (by kernel_rfl) rfl
theorem en28 : Proofs.Enters Tryd.prog 28 := Proofs.enters_of Tryd.func28 (by kernel_rfl) rfl
theorem en45 : Proofs.Enters Tryd.prog 45 := Proofs.enters_of Tryd.func45 (by kernel_rfl) rfl
theorem en18 : Proofs.Enters Tryd.prog 18 := Proofs.enters_of Tryd.func18 (by kernel_rfl) rfl
theorem en37 : Proofs.Enters Tryd.prog 37 := Proofs.enters_of Tryd.func37 (by kernel_rfl) rfl
theorem en44 : Proofs.Enters Tryd.prog 44 := Proofs.enters_of Tryd.func44 (by kernel_rfl) rfl
theorem en35 : Proofs.Enters Tryd.prog 35 := Proofs.enters_of Tryd.func35 (by kernel_rfl) rfl
theorem en33 : Proofs.Enters Tryd.prog 33 := Proofs.enters_of Tryd.func33 (by kernel_rfl) rfl
theorem en19 : Proofs.Enters Tryd.prog 19 := Proofs.enters_of Tryd.func19 (by kernel_rfl) rfl
theorem en10 : Proofs.Enters Tryd.prog 10 := Proofs.enters_of Tryd.func10 (by kernel_rfl) rfl
theorem en30 : Proofs.Enters Tryd.prog 30 := Proofs.enters_of Tryd.func30 (by kernel_rfl) rfl
theorem en8 : Proofs.Enters Tryd.prog 8 := Proofs.enters_of Tryd.func8 (by kernel_rfl) rfl
theorem en7 : Proofs.Enters Tryd.prog 7 := Proofs.enters_of Tryd.func7 (by kernel_rfl) rfl
theorem c34 {w0 w : World} {M I : Nat → Prop} {F : List It}  (s : St w0 M I (F) w) {r : Bool} (hf : g34 = some r) :
    Ret Tryd.prog 34 [.pointer none] w fun v wz => ∀ X : Value → World → Prop, (∀ (I' : Nat → Prop) (w' : World), St w0 M I' (F) w' → Kp I w I' w' → X (.bool r) w') → X v wz := by
  have kk : Kp I w I w := Kp.refl
  unfold g34 at hf
  refine Ret.of Tryd.func34 rfl ?_
  refine WPK.seq ?_
  refine WPK.region ?_
  refine RW.seg hT 1 [] [] [.bool false] [] (by kernel_rfl) (trivial) ?_
  refine RW.nil ?_
  refine WPK.seq ?_
  refine WPK.region ?_
  refine RW.seg hT 10 [] [] [.pointer none, .bool true, .bool true, undef, undef, undef, undef, undef, .bool true, .bool true] [] (by kernel_rfl) (trivial) ?_
  refine RW.nil ?_
  refine WPK.ret (?_)
  obtain rfl := someS hf
  refine Fin.of (rs := [.tmp 2]) hT [] (.bool true) [] rfl (by kernel_rfl) (trivial) ?_
  exact fun X h => vc rfl (h I _ s kk)
theorem c21 {w0 w : World} {M I : Nat → Prop} {F : List It}  (s : St w0 M I (F) w) {r : Unit} (hf : g21 = some r) :
    Ret Tryd.prog 21 [.pointer none] w fun v wz => ∀ X : Value → World → Prop, (∀ (I' : Nat → Prop) (w' : World), St w0 M I' (F) w' → Kp I w I' w' → X (.pointer none) w') → X v wz := by
  have kk : Kp I w I w := Kp.refl
  unfold g21 at hf
  refine Ret.of Tryd.func21 rfl ?_
  refine WPK.seq ?_
  refine WPK.region ?_
  refine RW.seg hT 1 [] [] [.pointer none] [] (by kernel_rfl) (trivial) ?_
  refine RW.nil ?_
  refine WPK.seq ?_
  refine WPK.seq ?_
  refine WPK.region ?_
  refine RW.seg hT 1 [] [] [.pointer none] [] (by kernel_rfl) (trivial) ?_
  obtain ⟨x66, hx67, hf⟩ := bindS hf
  refine RW.op (by kernel_rfl) (OK.call' en34 (by kernel_rfl) (c34 (F := F) s hx67) ?_)
  intro X70 hX71
  refine fun _ _ hJ => hJ X70 ?_
  intro I72 w68 s k69
  refine hX71 _ _ ?_
  replace kk := kk.trans k69
  refine RW.nil ?_
  by_cases h73 : x66 = true
  · have hf := iteT h73 hf
    refine WPK.condT (Eq.trans (b := .bool x66) (by kernel_rfl) (b_t h73)) ?_
    refine WPK.seq ?_
    refine WPK.region ?_
    refine RW.seg hT 1 [] [] [.pointer none] [] (by kernel_rfl) (trivial) ?_
    refine RW.nil ?_
    refine WPK.ret (?_)
    obtain rfl := someS hf
    refine Fin.of (rs := [.tmp 2]) hT [] (.pointer none) [] rfl (by kernel_rfl) (trivial) ?_
    exact fun X h => vc rfl (h I72 _ s kk)
  · have hf := iteF h73 hf
    refine WPK.condF (Eq.trans (b := .bool x66) (by kernel_rfl) (b_f h73)) ?_
    refine WPK.skip ?_
    refine WPK.seq ?_
    have kS78 : Kp I72 w68 I72 w68 := Kp.refl
    refine WPK.draw (fun w' => ∃ I' : Nat → Prop, St w0 M I' (F) w' ∧ Kp I72 w68 I' w') 12 (by kernel_rfl) ?_
    intro w75 hd76
    have k77 := Kp.dr s hd76
    replace s := s.dr hd76
    replace kk := kk.trans k77
    replace kS78 := kS78.trans k77
    exact noneS hf
theorem c16 {w0 w : World} {M I : Nat → Prop} {F : List It}  (s : St w0 M I (F) w) {r : Unit} (hf : g16 = some r) :
    Ret Tryd.prog 16 [.pointer none] w fun v wz => ∀ X : Value → World → Prop, (∀ (I' : Nat → Prop) (w' : World), St w0 M I' (F) w' → Kp I w I' w' → X (.pointer none) w') → X v wz := by
  have kk : Kp I w I w := Kp.refl
  unfold g16 at hf
  refine Ret.of Tryd.func16 rfl ?_
  refine WPK.seq ?_
  refine WPK.region ?_
  refine RW.seg hT 1 [] [] [.pointer none] [] (by kernel_rfl) (trivial) ?_
  refine RW.nil ?_
  refine WPK.seq ?_
  refine WPK.region ?_
  refine RW.seg hT 1 [] [] [.pointer none] [] (by kernel_rfl) (trivial) ?_
  obtain ⟨x86, hx87, hf⟩ := bindS hf
  refine RW.op (by kernel_rfl) (OK.call' en21 (by kernel_rfl) (c21 (F := F) s hx87) ?_)
  intro X90 hX91
  refine fun _ _ hJ => hJ X90 ?_
  intro I92 w88 s k89
  refine hX91 _ _ ?_
  replace kk := kk.trans k89
  refine RW.seg hT 1 [] [] [.pointer none] [] (by kernel_rfl) (trivial) ?_
  refine RW.nil ?_
  refine WPK.seq ?_
  refine WPK.seq ?_
  refine WPK.region ?_
  refine RW.seg hT 2 [] [] [.pointer none, .bool true] [] (by kernel_rfl) (trivial) ?_
  refine RW.nil ?_
  refine WPK.condT (by kernel_rfl) ?_
  refine WPK.seq ?_
  refine WPK.region ?_
  refine RW.seg hT 1 [] [] [.pointer none] [] (by kernel_rfl) (trivial) ?_
  refine RW.nil ?_
  refine WPK.ret (?_)
  obtain rfl := someS hf
  refine Fin.of (rs := [.tmp 2]) hT [] (.pointer none) [] rfl (by kernel_rfl) (trivial) ?_
  exact fun X h => vc rfl (h I92 _ s kk)
theorem c27 {w0 w : World} {M I : Nat → Prop} {F : List It} (p1 : Int) (s : St w0 M I (F) w) {r : Int} (hf : g27 p1 = some r) :
    Ret Tryd.prog 27 [.pointer none, .int .i64 p1] w fun v wz => ∀ X : Value → World → Prop, (∀ (I' : Nat → Prop) (w' : World), St w0 M I' (F) w' → Kp I w I' w' → X (.int .i64 r) w') → X v wz := by
  have kk : Kp I w I w := Kp.refl
  unfold g27 at hf
  refine Ret.of Tryd.func27 rfl ?_
  refine WPK.seq ?_
  refine WPK.region ?_
  refine RW.seg hT 1 [] [] [.int .i64 0] [] (by kernel_rfl) (trivial) ?_
  refine RW.nil ?_
  refine WPK.seq ?_
  refine WPK.seq ?_
  refine WPK.region ?_
  refine RW.seg hT 1 [] [] [.pointer none] [] (by kernel_rfl) (trivial) ?_
  obtain ⟨x156, hx157, hf⟩ := bindS hf
  refine RW.op (by kernel_rfl) (OK.call' en34 (by kernel_rfl) (c34 (F := F) s hx157) ?_)
  intro X160 hX161
  refine fun _ _ hJ => hJ X160 ?_
  intro I162 w158 s k159
  refine hX161 _ _ ?_
  replace kk := kk.trans k159
  by_cases h163 : x156 = true
  · have hf := iteT h163 hf
    refine RW.seg hT 8 [] [(10, .bool true)] [.bool true, undef, undef, undef, undef, undef, undef, .bool true] [.veq (.bool (x156)) (.bool true)] (by kernel_rfl) (b_t h163) ?_
    refine RW.nil ?_
    refine WPK.condT (by kernel_rfl) ?_
    refine WPK.seq ?_
    refine WPK.region ?_
    refine RW.seg hT 1 [] [] [.int .i64 (-1)] [] (by kernel_rfl) (trivial) ?_
    refine RW.nil ?_
    refine WPK.ret (?_)
    obtain rfl := someS hf
    refine Fin.of (rs := [.tmp 4]) hT [] (.int .i64 (-1)) [] rfl (by kernel_rfl) (trivial) ?_
    exact fun X h => vc rfl (h I162 _ s kk)
  · have hf := iteF h163 hf
    exact noneS hf
theorem c17 {w0 w : World} {M I : Nat → Prop} {F : List It}  (s : St w0 M I (F) w) {r : Int} (hf : g17 = some r) :
    Ret Tryd.prog 17 [.pointer none] w fun v wz => ∀ X : Value → World → Prop, (∀ (I' : Nat → Prop) (w' : World), St w0 M I' (F) w' → Kp I w I' w' → X (.int .i64 r) w') → X v wz := by
  have kk : Kp I w I w := Kp.refl
  unfold g17 at hf
  refine Ret.of Tryd.func17 rfl ?_
  refine WPK.seq ?_
  refine WPK.region ?_
  refine RW.seg hT 1 [] [] [.int .i64 0] [] (by kernel_rfl) (trivial) ?_
  refine RW.nil ?_
  refine WPK.seq ?_
  refine WPK.seq ?_
  refine WPK.region ?_
  refine RW.seg hT 1 [] [] [.pointer none] [] (by kernel_rfl) (trivial) ?_
  obtain ⟨x1378, hx1379, hf⟩ := bindS hf
  refine RW.op (by kernel_rfl) (OK.call' en34 (by kernel_rfl) (c34 (F := F) s hx1379) ?_)
  intro X1382 hX1383
  refine fun _ _ hJ => hJ X1382 ?_
  intro I1384 w1380 s k1381
  refine hX1383 _ _ ?_
  replace kk := kk.trans k1381
  refine RW.nil ?_
  by_cases h1385 : x1378 = true
  · have hf := iteT h1385 hf
    refine WPK.condT (Eq.trans (b := .bool x1378) (by kernel_rfl) (b_t h1385)) ?_
    refine WPK.seq ?_
    refine WPK.region ?_
    refine RW.seg hT 1 [] [] [.int .i64 0] [] (by kernel_rfl) (trivial) ?_
    refine RW.nil ?_
    refine WPK.ret (?_)
    obtain rfl := someS hf
    refine Fin.of (rs := [.tmp 2]) hT [] (.int .i64 0) [] rfl (by kernel_rfl) (trivial) ?_
    exact fun X h => vc rfl (h I1384 _ s kk)
  · have hf := iteF h1385 hf
    refine WPK.condF (Eq.trans (b := .bool x1378) (by kernel_rfl) (b_f h1385)) ?_
    refine WPK.skip ?_
    refine WPK.seq ?_
    refine WPK.region ?_
    exact noneS hf
theorem c14 {w0 w : World} {M I : Nat → Prop} {F : List It}  (s : St w0 M I (F) w) {r : Int} (hf : g14 = some r) :
    Ret Tryd.prog 14 [.pointer none] w fun v wz => ∀ X : Value → World → Prop, (∀ (I' : Nat → Prop) (w' : World), St w0 M I' (F) w' → Kp I w I' w' → X (.int .i64 r) w') → X v wz := by
  have kk : Kp I w I w := Kp.refl
  unfold g14 at hf
  refine Ret.of Tryd.func14 rfl ?_
  refine WPK.seq ?_
  refine WPK.region ?_
  refine RW.seg hT 1 [] [] [.int .i64 0] [] (by kernel_rfl) (trivial) ?_
  refine RW.nil ?_
  refine WPK.seq ?_
  refine WPK.region ?_
  refine RW.seg hT 1 [] [] [.int .i64 0] [] (by kernel_rfl) (trivial) ?_
  refine RW.nil ?_
  refine WPK.seq ?_
  refine WPK.seq ?_
  refine WPK.region ?_
  refine RW.seg hT 1 [] [] [.pointer none] [] (by kernel_rfl) (trivial) ?_
  obtain ⟨x1417, hx1418, hf⟩ := bindS hf
  refine RW.op (by kernel_rfl) (OK.call' en34 (by kernel_rfl) (c34 (F := F) s hx1418) ?_)
  intro X1421 hX1422
  refine fun _ _ hJ => hJ X1421 ?_
  intro I1423 w1419 s k1420
  refine hX1422 _ _ ?_
  replace kk := kk.trans k1420
  refine RW.nil ?_
  by_cases h1424 : x1417 = true
  · have hf := iteT h1424 hf
    refine WPK.condT (Eq.trans (b := .bool x1417) (by kernel_rfl) (b_t h1424)) ?_
    refine WPK.seq ?_
    refine WPK.region ?_
    refine RW.seg hT 2 [] [] [.int .i64 0, .int .i64 0] [] (by kernel_rfl) (trivial) ?_
    refine RW.nil ?_
    refine WPK.ret (?_)
    obtain rfl := someS hf
    refine Fin.of (rs := [.tmp 2]) hT [] (.int .i64 0) [] rfl (by kernel_rfl) (trivial) ?_
    exact fun X h => vc rfl (h I1423 _ s kk)
  · have hf := iteF h1424 hf
    refine WPK.condF (Eq.trans (b := .bool x1417) (by kernel_rfl) (b_f h1424)) ?_
    refine WPK.skip ?_
    refine WPK.seq ?_
    refine WPK.seq ?_
    refine WPK.region ?_
    exact noneS hf
theorem c32 {w0 w : World} {M I : Nat → Prop} {F : List It} (p1 : Int) (s : St w0 M I (F) w) {r : Int} (hf : g32 p1 = some r) :
    Ret Tryd.prog 32 [.pointer none, .int .i64 p1] w fun v wz => ∀ X : Value → World → Prop, (∀ (I' : Nat → Prop) (w' : World), St w0 M I' (F) w' → Kp I w I' w' → X (.int .i64 r) w') → X v wz := by
  have kk : Kp I w I w := Kp.refl
  unfold g32 at hf
  refine Ret.of Tryd.func32 rfl ?_
  refine WPK.seq ?_
  refine WPK.region ?_
  refine RW.seg hT 1 [] [] [.int .i64 0] [] (by kernel_rfl) (trivial) ?_
  refine RW.nil ?_
  refine WPK.seq ?_
  refine WPK.block ?_
  refine WPK.seq ?_
  refine WPK.region ?_
  refine RW.seg hT 1 [] [] [.pointer none] [] (by kernel_rfl) (trivial) ?_
  obtain ⟨x1463, hx1464, hf⟩ := bindS hf
  refine RW.op (by kernel_rfl) (OK.call' en34 (by kernel_rfl) (c34 (F := F) s hx1464) ?_)
  intro X1467 hX1468
  refine fun _ _ hJ => hJ X1467 ?_
  intro I1469 w1465 s k1466
  refine hX1468 _ _ ?_
  replace kk := kk.trans k1466
  refine RW.seg hT 1 [] [] [.bool x1463] [] (by kernel_rfl) (trivial) ?_
  refine RW.nil ?_
  by_cases h1470 : x1463 = true
  · have hf := iteT h1470 hf
    refine WPK.condT (Eq.trans (b := .bool x1463) (by kernel_rfl) (b_t h1470)) ?_
    refine WPK.seq ?_
    refine WPK.region ?_
    refine RW.seg hT 1 [] [] [.int .i64 2] [] (by kernel_rfl) (trivial) ?_
    refine RW.nil ?_
    refine WPK.ret (blockQ.ret (?_))
    obtain rfl := someS hf
    refine Fin.of (rs := [.tmp 4]) hT [] (.int .i64 2) [] rfl (by kernel_rfl) (trivial) ?_
    exact fun X h => vc rfl (h I1469 _ s kk)
  · have hf := iteF h1470 hf
    refine WPK.condF (Eq.trans (b := .bool x1463) (by kernel_rfl) (b_f h1470)) ?_
    refine WPK.seq ?_
    refine WPK.region ?_
    refine RW.seg hT 2 [] [] [.int .i64 p1, .bool (decide (p1 < 0))] [] (by kernel_rfl) (trivial) ?_
    by_cases h1472 : p1 < 0
    · have hf := iteT h1472 hf
      refine RW.seg hT 9 [] [(11, .bool true)] [.bool true, undef, undef, undef, undef, undef, undef, .bool true, .bool true] [.veq (.bool (decide (p1 < 0))) (.bool true)] (by kernel_rfl) (bo_t h1472) ?_
      refine RW.nil ?_
      refine WPK.condT (by kernel_rfl) ?_
      refine WPK.seq ?_
      refine WPK.region ?_
      refine RW.seg hT 1 [] [] [.int .i64 1] [] (by kernel_rfl) (trivial) ?_
      refine RW.nil ?_
      refine WPK.ret (blockQ.ret (?_))
      obtain rfl := someS hf
      refine Fin.of (rs := [.tmp 4]) hT [] (.int .i64 1) [] rfl (by kernel_rfl) (trivial) ?_
      exact fun X h => vc rfl (h I1469 _ s kk)
    · have hf := iteF h1472 hf
      exact noneS hf
theorem c13 {w0 w : World} {M I : Nat → Prop} {F : List It} (p1 : Int) (s : St w0 M I (F) w) {r : Bool} (hf : g13 p1 = some r) :
    Ret Tryd.prog 13 [.pointer none, .int .i64 p1] w fun v wz => ∀ X : Value → World → Prop, (∀ (I' : Nat → Prop) (w' : World), St w0 M I' (F) w' → Kp I w I' w' → X (.bool r) w') → X v wz := by
  have kk : Kp I w I w := Kp.refl
  unfold g13 at hf
  refine Ret.of Tryd.func13 rfl ?_
  refine WPK.seq ?_
  refine WPK.region ?_
  refine RW.seg hT 1 [] [] [.bool false] [] (by kernel_rfl) (trivial) ?_
  refine RW.nil ?_
  refine WPK.seq ?_
  have kS1532 : Kp I w I w := Kp.refl
  refine WPK.draw (fun w' => ∃ I' : Nat → Prop, St w0 M I' (F) w' ∧ Kp I w I' w') 19 (by kernel_rfl) ?_
  intro w1529 hd1530
  have k1531 := Kp.dr s hd1530
  replace s := s.dr hd1530
  replace kk := kk.trans k1531
  replace kS1532 := kS1532.trans k1531
  refine RD.seg hT (by kernel_rfl) [0, 1] [] [] [.pointer none, .int .i64 p1] [] (by kernel_rfl) (fun _ _ => trivial) ⟨_, s.pick [] 0 rfl, kS1532⟩ ?_
  obtain ⟨x1533, hx1534, hf⟩ := bindS hf
  refine RD.op (i := 2) rfl (by kernel_rfl) (by kernel_rfl) (OK.call' en32 (by kernel_rfl) (c32 (F := F) p1 s hx1534) ?_)
  intro X1537 hX1538
  refine fun _ _ hJ => hJ X1537 ?_
  intro I1539 w1535 s k1536
  refine hX1538 _ _ ?_
  replace kk := kk.trans k1536
  replace kS1532 := kS1532.trans k1536
  refine ⟨fun _ => ⟨_, s.pick [] 0 rfl, kS1532⟩, RD.fold ?_⟩
  refine RD.seg hT (by kernel_rfl) [3] [] [(8, .bool (decide (x1533 = 0)))] [.bool (decide (x1533 = 0))] [.veq (.bool (x1533 == 0)) (.bool (decide (x1533 = 0)))] (by kernel_rfl) (by rintro w' ⟨I', s, k⟩; exact eq_v) ⟨_, s.pick [] 0 rfl, kS1532⟩ ?_
  by_cases h1540 : x1533 = 0
  · have hf := iteT h1540 hf
    exact noneS hf
  · have hf := iteF h1540 hf
    refine RD.seg hT (by kernel_rfl) [4, 5, 6, 7, 8, 9, 10, 11, 12, 13] [] [(9, .bool false)] [.bool false, undef, undef, undef, undef, undef, undef, undef, undef, undef] [.veq (.bool (decide (x1533 = 0))) (.bool false)] (by kernel_rfl) (by rintro w' ⟨I', s, k⟩; exact bo_f h1540) ⟨_, s.pick [] 0 rfl, kS1532⟩ ?_
    refine RD.skip (i := 14) rfl (by kernel_rfl) (by kernel_rfl) ?_
    refine ⟨fun _ => ⟨_, s.pick [] 0 rfl, kS1532⟩, ?_⟩
    refine RD.seg hT (by kernel_rfl) [15, 16, 17, 18] [] [] [undef, undef, .bool false, .bool false] [] (by kernel_rfl) (fun _ _ => trivial) ⟨_, s.pick [] 0 rfl, kS1532⟩ ?_
    refine RD.done (by kernel_rfl) ?_
    refine WPK.ret (?_)
    obtain rfl := someS hf
    refine Fin.of (rs := [.tmp 4]) hT [] (.bool false) [] rfl (by kernel_rfl) (trivial) ?_
    exact fun X h => vc rfl (h I1539 _ s kk)
theorem c22 {w0 w : World} {M I : Nat → Prop} {F : List It} (p1 : Int) (s : St w0 M I (F) w) {r : Int} (hf : g22 p1 = some r) :
    Ret Tryd.prog 22 [.pointer none, .int .i64 p1] w fun v wz => ∀ X : Value → World → Prop, (∀ (I' : Nat → Prop) (w' : World), St w0 M I' (F) w' → Kp I w I' w' → X (.int .i64 r) w') → X v wz := by
  have kk : Kp I w I w := Kp.refl
  unfold g22 at hf
  refine Ret.of Tryd.func22 rfl ?_
  refine WPK.seq ?_
  refine WPK.region ?_
  refine RW.seg hT 1 [] [] [.int .i64 0] [] (by kernel_rfl) (trivial) ?_
  refine RW.nil ?_
  refine WPK.seq ?_
  refine WPK.seq ?_
  refine WPK.region ?_
  refine RW.seg hT 2 [] [] [.pointer none, .int .i64 p1] [] (by kernel_rfl) (trivial) ?_
  obtain ⟨x1570, hx1571, hf⟩ := bindS hf
  refine RW.op (by kernel_rfl) (OK.call' en32 (by kernel_rfl) (c32 (F := F) p1 s hx1571) ?_)
  intro X1574 hX1575
  refine fun _ _ hJ => hJ X1574 ?_
  intro I1576 w1572 s k1573
  refine hX1575 _ _ ?_
  replace kk := kk.trans k1573
  refine RW.seg hT 1 [] [] [.int .i64 x1570] [] (by kernel_rfl) (trivial) ?_
  refine RW.nil ?_
  refine WPK.seq ?_
  refine WPK.region ?_
  refine RW.seg hT 2 [] [(10, .bool (decide (x1570 ≠ 0)))] [.int .i64 x1570, .bool (decide (x1570 ≠ 0))] [.veq (.bool (x1570 != 0)) (.bool (decide (x1570 ≠ 0)))] (by kernel_rfl) (ne_v) ?_
  refine RW.nil ?_
  by_cases h1577 : x1570 ≠ 0
  · have hf := iteT h1577 hf
    refine WPK.condT (Eq.trans (b := .bool (decide (x1570 ≠ 0))) (by kernel_rfl) (bo_t h1577)) ?_
    refine WPK.seq ?_
    refine WPK.region ?_
    refine RW.seg hT 2 [] [] [.int .i64 x1570, .int .i64 x1570] [] (by kernel_rfl) (trivial) ?_
    refine RW.nil ?_
    refine WPK.ret (?_)
    obtain rfl := someS hf
    refine Fin.of (rs := [.tmp 4]) hT [] (.int .i64 x1570) [] rfl (by kernel_rfl) (trivial) ?_
    exact fun X h => vc rfl (h I1576 _ s kk)
  · have hf := iteF h1577 hf
    refine WPK.condF (Eq.trans (b := .bool (decide (x1570 ≠ 0))) (by kernel_rfl) (bo_f h1577)) ?_
    refine WPK.skip ?_
    refine WPK.seq ?_
    refine WPK.seq ?_
    refine WPK.region ?_
    refine RW.seg hT 2 [] [] [.pointer none, .int .i64 p1] [] (by kernel_rfl) (trivial) ?_
    obtain ⟨x1586, hx1587, hf⟩ := bindS hf
    refine RW.op (by kernel_rfl) (OK.call' en13 (by kernel_rfl) (c13 (F := F) p1 s hx1587) ?_)
    intro X1590 hX1591
    refine fun _ _ hJ => hJ X1590 ?_
    intro I1592 w1588 s k1589
    refine hX1591 _ _ ?_
    replace kk := kk.trans k1589
    refine RW.nil ?_
    by_cases h1593 : x1586 = true
    · have hf := iteT h1593 hf
      refine WPK.condT (Eq.trans (b := .bool x1586) (by kernel_rfl) (b_t h1593)) ?_
      refine WPK.seq ?_
      refine WPK.region ?_
      refine RW.seg hT 1 [] [] [.int .i64 70] [] (by kernel_rfl) (trivial) ?_
      refine RW.nil ?_
      refine WPK.ret (?_)
      obtain rfl := someS hf
      refine Fin.of (rs := [.tmp 4]) hT [] (.int .i64 70) [] rfl (by kernel_rfl) (trivial) ?_
      exact fun X h => vc rfl (h I1592 _ s kk)
    · have hf := iteF h1593 hf
      refine WPK.condF (Eq.trans (b := .bool x1586) (by kernel_rfl) (b_f h1593)) ?_
      refine WPK.skip ?_
      refine WPK.seq ?_
      have kS1598 : Kp I1592 w1588 I1592 w1588 := Kp.refl
      refine WPK.draw (fun w' => ∃ I' : Nat → Prop, St w0 M I' (F) w' ∧ Kp I1592 w1588 I' w') 12 (by kernel_rfl) ?_
      intro w1595 hd1596
      have k1597 := Kp.dr s hd1596
      replace s := s.dr hd1596
      replace kk := kk.trans k1597
      replace kS1598 := kS1598.trans k1597
      exact noneS hf
theorem c23 {w0 w : World} {M I : Nat → Prop} {F : List It} (p1 : Int) (s : St w0 M I (F) w) {r : Int} (hf : g23 p1 = some r) :
    Ret Tryd.prog 23 [.pointer none, .int .i64 p1] w fun v wz => ∀ X : Value → World → Prop, (∀ (I' : Nat → Prop) (w' : World), St w0 M I' (F) w' → Kp I w I' w' → X (.int .i64 r) w') → X v wz := by
  have kk : Kp I w I w := Kp.refl
  unfold g23 at hf
  refine Ret.of Tryd.func23 rfl ?_
  refine WPK.seq ?_
  refine WPK.region ?_
  refine RW.seg hT 1 [] [] [.int .i64 0] [] (by kernel_rfl) (trivial) ?_
  refine RW.nil ?_
  refine WPK.seq ?_
  refine WPK.seq ?_
  refine WPK.region ?_
  refine RW.seg hT 2 [] [] [.pointer none, .int .i64 p1] [] (by kernel_rfl) (trivial) ?_
  obtain ⟨x1652, hx1653, hf⟩ := bindS hf
  refine RW.op (by kernel_rfl) (OK.call' en32 (by kernel_rfl) (c32 (F := F) p1 s hx1653) ?_)
  intro X1656 hX1657
  refine fun _ _ hJ => hJ X1656 ?_
  intro I1658 w1654 s k1655
  refine hX1657 _ _ ?_
  replace kk := kk.trans k1655
  refine RW.seg hT 1 [] [] [.int .i64 x1652] [] (by kernel_rfl) (trivial) ?_
  refine RW.nil ?_
  refine WPK.seq ?_
  refine WPK.region ?_
  refine RW.seg hT 2 [] [(10, .bool (decide (x1652 ≠ 0)))] [.int .i64 x1652, .bool (decide (x1652 ≠ 0))] [.veq (.bool (x1652 != 0)) (.bool (decide (x1652 ≠ 0)))] (by kernel_rfl) (ne_v) ?_
  refine RW.nil ?_
  by_cases h1659 : x1652 ≠ 0
  · have hf := iteT h1659 hf
    refine WPK.condT (Eq.trans (b := .bool (decide (x1652 ≠ 0))) (by kernel_rfl) (bo_t h1659)) ?_
    refine WPK.seq ?_
    refine WPK.region ?_
    refine RW.seg hT 2 [] [] [.int .i64 x1652, .int .i64 x1652] [] (by kernel_rfl) (trivial) ?_
    refine RW.nil ?_
    refine WPK.ret (?_)
    obtain rfl := someS hf
    refine Fin.of (rs := [.tmp 4]) hT [] (.int .i64 x1652) [] rfl (by kernel_rfl) (trivial) ?_
    exact fun X h => vc rfl (h I1658 _ s kk)
  · have hf := iteF h1659 hf
    refine WPK.condF (Eq.trans (b := .bool (decide (x1652 ≠ 0))) (by kernel_rfl) (bo_f h1659)) ?_
    refine WPK.skip ?_
    refine WPK.seq ?_
    refine WPK.seq ?_
    refine WPK.region ?_
    refine RW.seg hT 2 [] [] [.pointer none, .int .i64 p1] [] (by kernel_rfl) (trivial) ?_
    obtain ⟨x1668, hx1669, hf⟩ := bindS hf
    refine RW.op (by kernel_rfl) (OK.call' en13 (by kernel_rfl) (c13 (F := F) p1 s hx1669) ?_)
    intro X1672 hX1673
    refine fun _ _ hJ => hJ X1672 ?_
    intro I1674 w1670 s k1671
    refine hX1673 _ _ ?_
    replace kk := kk.trans k1671
    refine RW.seg hT 1 [] [(15, .bool (decide (¬ (x1668 = true))))] [.bool (decide (¬ (x1668 = true)))] [.veq (.bool (!x1668)) (.bool (decide (¬ (x1668 = true))))] (by kernel_rfl) (not_b) ?_
    refine RW.nil ?_
    by_cases h1675 : ¬ (x1668 = true)
    · have hf := iteT h1675 hf
      refine WPK.condT (Eq.trans (b := .bool (decide (¬ (x1668 = true)))) (by kernel_rfl) (bo_t h1675)) ?_
      refine WPK.seq ?_
      refine WPK.region ?_
      refine RW.seg hT 1 [] [] [.int .i64 4] [] (by kernel_rfl) (trivial) ?_
      refine RW.nil ?_
      refine WPK.ret (?_)
      obtain rfl := someS hf
      refine Fin.of (rs := [.tmp 4]) hT [] (.int .i64 4) [] rfl (by kernel_rfl) (trivial) ?_
      exact fun X h => vc rfl (h I1674 _ s kk)
    · have hf := iteF h1675 hf
      refine WPK.condF (Eq.trans (b := .bool (decide (¬ (x1668 = true)))) (by kernel_rfl) (bo_f h1675)) ?_
      refine WPK.skip ?_
      refine WPK.seq ?_
      have kS1680 : Kp I1674 w1670 I1674 w1670 := Kp.refl
      refine WPK.draw (fun w' => ∃ I' : Nat → Prop, St w0 M I' (F) w' ∧ Kp I1674 w1670 I' w') 12 (by kernel_rfl) ?_
      intro w1677 hd1678
      have k1679 := Kp.dr s hd1678
      replace s := s.dr hd1678
      replace kk := kk.trans k1679
      replace kS1680 := kS1680.trans k1679
      exact noneS hf
theorem c15 {w0 w : World} {M I : Nat → Prop} {F : List It} (p1 : Int) (s : St w0 M I (F) w) {r : Int} (hf : g15 p1 = some r) :
    Ret Tryd.prog 15 [.pointer none, .int .i64 p1] w fun v wz => ∀ X : Value → World → Prop, (∀ (I' : Nat → Prop) (w' : World), St w0 M I' (F) w' → Kp I w I' w' → X (.int .i64 r) w') → X v wz := by
  have kk : Kp I w I w := Kp.refl
  unfold g15 at hf
  refine Ret.of Tryd.func15 rfl ?_
  refine WPK.seq ?_
  refine WPK.region ?_
  refine RW.op (by kernel_rfl) (OK.new hT (f := fun b => .pointer (some ⟨b, 0, none⟩)) (cs := [.int .i64 p1]) (e := 3) (c := .tt) s (by kernel_rfl) trivial ?_)
  rintro w2043 b2044 s k2045 -
  replace kk := kk.trans k2045
  refine RW.seg hT 1 [] [] [.int .i64 0] [] (by kernel_rfl) (trivial) ?_
  refine RW.nil ?_
  refine WPK.scope ?_
  refine WPK.seq ?_
  refine WPK.region ?_
  refine RW.op (by kernel_rfl) (OK.new hT (f := fun b => .pointer (some ⟨b, 0, none⟩)) (cs := [.int .i64 0]) (e := 3) (c := .tt) s (by kernel_rfl) trivial ?_)
  rintro w2046 b2047 s k2048 -
  replace kk := kk.trans k2048
  refine RW.op (by kernel_rfl) (OK.store hT (i := 0) (b := b2047) (off := 0) (n := 1) (vs := [.int .i64 (-1)]) (cs := [.int .i64 0]) (e := 3) s (by kernel_rfl) rfl rfl (flat_ok rfl) (Nat.le_of_ble_eq_true rfl) ?_)
  rintro w2049 s k2050 -
  replace kk := kk.trans k2050
  refine RW.nil ?_
  refine WPK.seq ?_
  refine WPK.seq ?_
  refine WPK.region ?_
  refine RW.seg hT 2 [.int .i64 p1] [] [.int .i64 p1, .bool (decide (p1 < 1))] [.cell ⟨b2044, 0, none⟩ (.int .i64 p1)] (by kernel_rfl) (s.cell (i := 1) (off := 0) rfl rfl) ?_
  refine RW.nil ?_
  by_cases h2052 : p1 < 1
  · have hf := iteT h2052 hf
    refine WPK.condT (Eq.trans (b := .bool (decide (p1 < 1))) (by kernel_rfl) (bo_t h2052)) ?_
    refine WPK.seq ?_
    refine WPK.region ?_
    refine RW.seg hT 2 [.int .i64 (-1)] [] [.int .i64 (-1), .int .i64 (-1)] [.cell ⟨b2047, 0, none⟩ (.int .i64 (-1))] (by kernel_rfl) (s.cell (i := 0) (off := 0) rfl rfl) ?_
    refine RW.nil ?_
    refine WPK.ret (scopeQ.ret (?_))
    obtain rfl := someS hf
    refine Fin.of (rs := [.tmp 4]) hT [] (.int .i64 (-1)) [] rfl (by kernel_rfl) (trivial) ?_
    replace s := s.pick [] 2 rfl
    exact fun X h => vc rfl (h I _ s kk)
  · have hf := iteF h2052 hf
    refine WPK.condF (Eq.trans (b := .bool (decide (p1 < 1))) (by kernel_rfl) (bo_f h2052)) ?_
    refine WPK.skip ?_
    refine WPK.seq ?_
    refine WPK.label ?_
    refine WPK.seq ?_
    refine WPK.seq ?_
    refine WPK.region ?_
    refine RW.seg hT 1 [] [] [.pointer none] [] (by kernel_rfl) (trivial) ?_
    refine RW.op (by kernel_rfl) (OK.inl (args := [.pointer none]) en12 (by kernel_rfl) ?_)
    intro R2217 hR2218
    refine Ret.of Tryd.func12 rfl ?_
    refine WPK.seq ?_
    refine WPK.region ?_
    refine RW.op (by kernel_rfl) (OK.new hT (f := fun b => .pointer (some ⟨b, 0, none⟩)) (cs := [.pointer none]) (e := 25) (c := .tt) s (by kernel_rfl) trivial ?_)
    rintro w2222 b2223 s k2224 -
    replace kk := kk.trans k2224
    refine RW.seg hT 1 [] [] [.nilFunc] [] (by kernel_rfl) (trivial) ?_
    refine RW.nil ?_
    refine WPK.seq ?_
    refine WPK.region ?_
    refine RW.seg hT 2 [] [] [.func (.func 31) #[] #[.pointer (some ⟨b2223, 0, none⟩)], .func (.func 31) #[] #[.pointer (some ⟨b2223, 0, none⟩)]] [] (by kernel_rfl) (trivial) ?_
    refine RW.nil ?_
    refine WPK.ret (?_)
    refine Fin.of (rs := [.tmp 2]) hT [] (.func (.func 31) #[] #[.pointer (some ⟨b2223, 0, none⟩)]) [] rfl (by kernel_rfl) (trivial) ?_
    refine hR2218 _ _ ?_
    refine RW.nil ?_
    refine WPK.block ?_
    refine WPK.range (gf := 31) (first := []) (cap := [.pointer (some ⟨b2223, 0, none⟩)]) s (by kernel_rfl) en31 ?_
    intro l2225 d2226 rec2227 w2229 R2231 hrec2228 s k2230 hR2232
    replace kk := kk.trans k2230
    refine Ret.of Tryd.func31 rfl ?_
    refine WPK.seq ?_
    refine WPK.region ?_
    refine RW.seg hT 1 [.pointer none] [] [.pointer none] [.cell ⟨b2223, 0, none⟩ (.pointer none)] (by kernel_rfl) (s.cell (i := 2) (off := 0) rfl rfl) ?_
    obtain ⟨x2233, hx2234, hf⟩ := bindS hf
    refine RW.op (by kernel_rfl) (OK.call' en16 (by kernel_rfl) (c16 (F := (.blk l2225 (rec2227 .ready none)) :: (.blk d2226 (.deferred (some []))) :: (.blk b2223 (.cells #[.pointer none] 25 (0, 0))) :: (.blk b2047 (.cells #[.int .i64 (-1)] 3 (0, 0))) :: (.blk b2044 (.cells #[.int .i64 p1] 3 (0, 0))) :: F) s hx2234) ?_)
    intro X2237 hX2238
    refine fun _ _ hJ => hJ X2237 ?_
    intro I2239 w2235 s k2236
    refine hX2238 _ _ ?_
    replace kk := kk.trans k2236
    refine RW.seg hT 1 [] [] [.pointer none] [] (by kernel_rfl) (trivial) ?_
    refine RW.nil ?_
    refine WPK.seq ?_
    refine WPK.region ?_
    refine RW.seg hT 1 [.pointer none] [] [.pointer none] [.cell ⟨b2223, 0, none⟩ (.pointer none)] (by kernel_rfl) (s.cell (i := 2) (off := 0) rfl rfl) ?_
    obtain ⟨x2240, hx2241, hf⟩ := bindS hf
    refine RW.op (by kernel_rfl) (OK.call' en27 (by kernel_rfl) (c27 (F := (.blk l2225 (rec2227 .ready none)) :: (.blk d2226 (.deferred (some []))) :: (.blk b2223 (.cells #[.pointer none] 25 (0, 0))) :: (.blk b2047 (.cells #[.int .i64 (-1)] 3 (0, 0))) :: (.blk b2044 (.cells #[.int .i64 p1] 3 (0, 0))) :: F) 0 s hx2241) ?_)
    intro X2244 hX2245
    refine fun _ _ hJ => hJ X2244 ?_
    intro I2246 w2242 s k2243
    refine hX2245 _ _ ?_
    replace kk := kk.trans k2243
    refine RW.seg hT 1 [] [] [.int .i64 x2240] [] (by kernel_rfl) (trivial) ?_
    refine RW.nil ?_
    refine WPK.block ?_
    refine WPK.loop' (J := fun n2333 E ds wz => ∀ X : Kont, (∀ (I2291 : Nat → Prop) (x2289 : Int) (D2288 : List Value) (w' : World), g15_l1 p1 n2333 x2289 = some r → St w0 M I2291 ((.blk l2225 (rec2227 .ready none)) :: (.blk d2226 (.deferred (some []))) :: (.blk b2223 (.cells #[.pointer none] 25 (0, 0))) :: (.blk b2047 (.cells #[.int .i64 (-1)] 3 (0, 0))) :: (.blk b2044 (.cells #[.int .i64 p1] 3 (0, 0))) :: F) w' → Kp I w I2291 w' → X [.func (.yield l2225) #[] #[], .pointer (some ⟨b2223, 0, none⟩), (D2288.getD 0 undef), .pointer none, .int .i64 x2289, (D2288.getD 1 undef), (D2288.getD 2 undef), (D2288.getD 3 undef), (D2288.getD 4 undef), (D2288.getD 5 undef), (D2288.getD 6 undef), (D2288.getD 7 undef), (D2288.getD 8 undef), (D2288.getD 9 undef), (D2288.getD 10 undef), (D2288.getD 11 undef), (D2288.getD 12 undef), undef, undef, undef, undef, (D2288.getD 13 undef), (D2288.getD 14 undef), (D2288.getD 15 undef), (D2288.getD 16 undef), (D2288.getD 17 undef), (D2288.getD 18 undef), (D2288.getD 19 undef), (D2288.getD 20 undef), (D2288.getD 21 undef), (D2288.getD 22 undef)] [] w') → X E ds wz) FUEL (fun X h => kc (by kernel_rfl) rfl (h I2246 x2240 [undef, undef, .pointer none, .pointer none, .pointer none, .int .i64 x2240, undef, undef, undef, undef, undef, undef, undef, undef, undef, undef, undef, undef, undef, undef, undef, undef, undef] _ hf s kk)) (fun _ _ _ hJ => hJ (fun _ _ _ => False) (by intro I2291 x2289 D2288 w2290 hf s kk; exact noneS hf)) ?_
    intro X2383 hX2384
    refine fun n2333 _ _ _ hJ => hJ (X2383 n2333) ?_
    intro I2291 x2289 D2288 w2290 hf s kk
    refine hX2384 _ _ _ _ ?_
    replace hf : g15_l1B p1 (g15_l1 p1 n2333) x2289 = some r := hf
    generalize hrec2334 : g15_l1 p1 n2333 = rec2332 at hf
    unfold g15_l1B at hf
    refine WPK.seq ?_
    refine WPK.seq ?_
    refine WPK.region ?_
    refine RW.seg hT 2 [] [] [.int .i64 x2289, .bool (decide (x2289 ≥ 0))] [] (by kernel_rfl) (trivial) ?_
    refine RW.nil ?_
    by_cases h2336 : x2289 ≥ 0
    · have hf := iteT h2336 hf
      refine WPK.condT (Eq.trans (b := .bool (decide (x2289 ≥ 0))) (by kernel_rfl) (bo_t h2336)) ?_
      refine WPK.skip ?_
      refine WPK.block ?_
      refine WPK.seq ?_
      refine WPK.region ?_
      refine RW.seg hT 2 [] [] [.pointer none, .int .i64 x2289] [] (by kernel_rfl) (trivial) ?_
      obtain ⟨x2337, hx2338, hf⟩ := bindS hf
      refine RW.op (by kernel_rfl) (OK.call' en27 (by kernel_rfl) (c27 (F := (.blk l2225 (rec2227 .ready none)) :: (.blk d2226 (.deferred (some []))) :: (.blk b2223 (.cells #[.pointer none] 25 (0, 0))) :: (.blk b2047 (.cells #[.int .i64 (-1)] 3 (0, 0))) :: (.blk b2044 (.cells #[.int .i64 p1] 3 (0, 0))) :: F) x2289 s hx2338) ?_)
      intro X2341 hX2342
      refine fun _ _ hJ => hJ X2341 ?_
      intro I2343 w2339 s k2340
      refine hX2342 _ _ ?_
      replace kk := kk.trans k2340
      refine RW.seg hT 1 [] [] [.int .i64 x2337] [] (by kernel_rfl) (trivial) ?_
      refine RW.nil ?_
      refine WPK.seq ?_
      refine WPK.seq ?_
      refine WPK.region ?_
      refine RW.seg hT 2 [] [] [.int .i64 x2337, .bool (decide (x2337 < 0))] [] (by kernel_rfl) (trivial) ?_
      refine RW.nil ?_
      by_cases h2345 : x2337 < 0
      · have hf := iteT h2345 hf
        refine WPK.condT (Eq.trans (b := .bool (decide (x2337 < 0))) (by kernel_rfl) (bo_t h2345)) ?_
        refine WPK.region ?_
        exact noneS hf
      · have hf := iteF h2345 hf
        refine WPK.condF (Eq.trans (b := .bool (decide (x2337 < 0))) (by kernel_rfl) (bo_f h2345)) ?_
        refine WPK.skip ?_
        refine WPK.seq ?_
        refine WPK.seq ?_
        refine WPK.region ?_
        refine RW.seg hT 5 [] [] [.func (.yield l2225) #[] #[], .int .i64 x2289, .int .i64 x2337, .int .i64 x2289, .int .i64 (IntKind.i64.wrap (x2337 - x2289))] [] (by kernel_rfl) (trivial) ?_
        refine RW.op (by kernel_rfl) (OK.yield (args := [.int .i64 x2289, .int .i64 (IntKind.i64.wrap (x2337 - x2289))]) hrec2228 s (i := 0) rfl (by kernel_rfl) rfl ?_)
        intro R2357 hR2358
        refine WPK.seq ?_
        refine WPK.region ?_
        refine RW.seg hT 1 [] [] [.int .i64 x2289] [] (by kernel_rfl) (trivial) ?_
        refine RW.nil ?_
        refine WPK.region ?_
        refine RW.seg hT 1 [] [] [.int .i64 (IntKind.i64.wrap (x2337 - x2289))] [] (by kernel_rfl) (trivial) ?_
        refine RW.nil ?_
        refine RoundBeg.of hrec2228 s (i := 0) rfl ?_
        intro w2359 s k2360
        replace kk := kk.trans k2360
        refine WPK.block ?_
        refine WPK.seq ?_
        refine WPK.region ?_
        refine RW.seg hT 3 [.int .i64 p1] [] [.int .i64 (IntKind.i64.wrap (x2337 - x2289)), .int .i64 p1, .bool (decide ((IntKind.i64.wrap (x2337 - x2289)) ≥ p1))] [.cell ⟨b2044, 0, none⟩ (.int .i64 p1)] (by kernel_rfl) (s.cell (i := 4) (off := 0) rfl rfl) ?_
        refine RW.nil ?_
        by_cases h2361 : (IntKind.i64.wrap (x2337 - x2289)) ≥ p1
        · have hf := iteT h2361 hf
          refine WPK.condT (Eq.trans (b := .bool (decide ((IntKind.i64.wrap (x2337 - x2289)) ≥ p1))) (by kernel_rfl) (bo_t h2361)) ?_
          refine WPK.seq ?_
          refine WPK.region ?_
          refine RW.seg hT 1 [] [] [.int .i64 x2289] [] (by kernel_rfl) (trivial) ?_
          refine RW.op (by kernel_rfl) (OK.store hT (i := 3) (b := b2047) (off := 0) (n := 1) (vs := [.int .i64 x2289]) (cs := [.int .i64 (-1)]) (e := 3) s (by kernel_rfl) rfl rfl (flat_ok rfl) (Nat.le_of_ble_eq_true rfl) ?_)
          rintro w2362 s k2363 -
          replace kk := kk.trans k2363
          refine RW.nil ?_
          refine WPK.exit (blockQ.other rfl (?_))
          refine RoundEnd.stop (Code.exit 0) hrec2228 s (i := 0) rfl ?_
          intro w2364 s k2365
          replace kk := kk.trans k2365
          refine hR2358 _ _ ?_
          refine RW.seg hT 1 [] [] [.bool true] [] (by kernel_rfl) (trivial) ?_
          refine RW.nil ?_
          refine WPK.condT (by kernel_rfl) ?_
          refine WPK.ret (blockQ.ret (blockQ.ret (?_)))
          refine Fin.of (rs := []) hT [] (.tuple #[]) [] rfl (by kernel_rfl) (trivial) ?_
          refine hR2232 _ _ (RangeEnd.jump hrec2228 s (i := 0) rfl ?_)
          intro w2366 s k2367
          replace kk := kk.trans k2367
          refine WPK.exit (blockQ.same ?_)
          refine WPK.seq ?_
          refine WPK.region ?_
          refine RW.seg hT 2 [.int .i64 x2289] [] [.int .i64 x2289, .int .i64 x2289] [.cell ⟨b2047, 0, none⟩ (.int .i64 x2289)] (by kernel_rfl) (s.cell (i := 2) (off := 0) rfl rfl) ?_
          refine RW.nil ?_
          refine WPK.ret (scopeQ.ret (?_))
          obtain rfl := someS hf
          refine Fin.mark (i := 0) s rfl ?_
          intro w2368 s k2369
          replace kk := kk.trans k2369
          refine Fin.of (rs := [.tmp 4]) hT [] (.int .i64 x2289) [] rfl (by kernel_rfl) (trivial) ?_
          replace s := s.pick [] 3 rfl
          exact fun X h => vc rfl (h I2343 _ s kk)
        · have hf := iteF h2361 hf
          refine WPK.condF (Eq.trans (b := .bool (decide ((IntKind.i64.wrap (x2337 - x2289)) ≥ p1))) (by kernel_rfl) (bo_f h2361)) ?_
          refine WPK.skip ?_
          refine RoundEnd.next hrec2228 s (i := 0) rfl ?_
          intro w2370 s k2371
          replace kk := kk.trans k2371
          refine hR2358 _ _ ?_
          refine RW.seg hT 1 [] [] [.bool false] [] (by kernel_rfl) (trivial) ?_
          refine RW.nil ?_
          refine WPK.condF (by kernel_rfl) ?_
          refine WPK.skip ?_
          refine WPK.region ?_
          refine RW.seg hT 2 [.pointer none] [] [.pointer none, .int .i64 x2337] [.cell ⟨b2223, 0, none⟩ (.pointer none)] (by kernel_rfl) (s.cell (i := 2) (off := 0) rfl rfl) ?_
          obtain ⟨x2372, hx2373, hf⟩ := bindS hf
          refine RW.op (by kernel_rfl) (OK.call' en27 (by kernel_rfl) (c27 (F := (.blk l2225 (rec2227 .ready none)) :: (.blk d2226 (.deferred (some []))) :: (.blk b2223 (.cells #[.pointer none] 25 (0, 0))) :: (.blk b2047 (.cells #[.int .i64 (-1)] 3 (0, 0))) :: (.blk b2044 (.cells #[.int .i64 p1] 3 (0, 0))) :: F) x2337 s hx2373) ?_)
          intro X2376 hX2377
          refine fun _ _ hJ => hJ X2376 ?_
          intro I2378 w2374 s k2375
          refine hX2377 _ _ ?_
          replace kk := kk.trans k2375
          refine RW.seg hT 1 [] [] [.int .i64 x2372] [] (by kernel_rfl) (trivial) ?_
          refine RW.nil ?_
          subst hrec2334
          exact ⟨n2333, Nat.le_refl _, fun X h => kc (by kernel_rfl) rfl (h I2378 x2372 [(D2288.getD 0 undef), .int .i64 x2337, (D2288.getD 2 undef), (D2288.getD 3 undef), (D2288.getD 4 undef), (D2288.getD 5 undef), .int .i64 x2289, .bool (decide (x2289 ≥ 0)), .pointer none, .int .i64 x2289, .int .i64 x2337, .int .i64 x2337, .bool (decide (x2337 < 0)), .func (.yield l2225) #[] #[], .int .i64 x2289, .int .i64 x2337, .int .i64 x2289, .int .i64 (IntKind.i64.wrap (x2337 - x2289)), .bool true, .bool false, .pointer none, .int .i64 x2337, .int .i64 x2372] _ hf s kk)⟩
    · have hf := iteF h2336 hf
      refine WPK.condF (Eq.trans (b := .bool (decide (x2289 ≥ 0))) (by kernel_rfl) (bo_f h2336)) ?_
      refine WPK.exit (blockQ.same ?_)
      refine Fin.of (rs := []) hT [] (.tuple #[]) [] rfl (by kernel_rfl) (trivial) ?_
      refine hR2232 _ _ (RangeEnd.done hrec2228 s (i := 0) rfl ?_)
      intro w2379 s k2380
      replace kk := kk.trans k2380
      refine WPK.seq ?_
      refine WPK.region ?_
      refine RW.seg hT 2 [.int .i64 (-1)] [] [.int .i64 (-1), .int .i64 (-1)] [.cell ⟨b2047, 0, none⟩ (.int .i64 (-1))] (by kernel_rfl) (s.cell (i := 2) (off := 0) rfl rfl) ?_
      refine RW.nil ?_
      refine WPK.ret (scopeQ.ret (?_))
      obtain rfl := someS hf
      refine Fin.mark (i := 0) s rfl ?_
      intro w2381 s k2382
      replace kk := kk.trans k2382
      refine Fin.of (rs := [.tmp 4]) hT [] (.int .i64 (-1)) [] rfl (by kernel_rfl) (trivial) ?_
      replace s := s.pick [] 3 rfl
      exact fun X h => vc rfl (h I2291 _ s kk)
theorem c18 {w0 w : World} {M I : Nat → Prop} {F : List It}  (s : St w0 M I (F) w) {r : Bool} (hf : g18 = some r) :
    Ret Tryd.prog 18 [.pointer none, .pointer none] w fun v wz => ∀ X : Value → World → Prop, (∀ (I' : Nat → Prop) (w' : World), St w0 M I' (F) w' → Kp I w I' w' → X (.bool r) w') → X v wz := by
  have kk : Kp I w I w := Kp.refl
  unfold g18 at hf
  refine Ret.of Tryd.func18 rfl ?_
  refine WPK.seq ?_
  refine WPK.region ?_
  refine RW.seg hT 1 [] [] [.bool false] [] (by kernel_rfl) (trivial) ?_
  refine RW.nil ?_
  refine WPK.seq ?_
  refine WPK.seq ?_
  refine WPK.cut' (fun E ds wz => ∀ X : Kont, (∀ (I3380 : Nat → Prop) (x3378 : Bool) (D3377 : List Value) (w' : World), g18_j1 x3378 = some r → St w0 M I3380 (F) w' → Kp I w I3380 w' → X [.pointer none, .pointer none, (D3377.getD 0 undef), (D3377.getD 1 undef), .bool false, (D3377.getD 2 undef), (D3377.getD 3 undef), (D3377.getD 4 undef), (D3377.getD 5 undef), (D3377.getD 6 undef), .bool x3378, (D3377.getD 7 undef), undef, undef, (D3377.getD 8 undef), undef, undef, undef, undef, undef, undef, undef, undef, undef, undef, undef, undef, undef, undef, undef, (D3377.getD 9 undef), undef, undef, undef, (D3377.getD 10 undef), undef, undef] [] w') → X E ds wz) ?_ ?_
  · intro X3428 hX3429
    refine fun _ _ _ hJ => hJ X3428 ?_
    intro I3380 x3378 D3377 w3379 hf s kk
    refine hX3429 _ _ _ ?_
    unfold g18_j1 at hf
    by_cases h3381 : x3378 = true
    · have hf := iteT h3381 hf
      refine WPK.condT (Eq.trans (b := .bool x3378) (by kernel_rfl) (b_t h3381)) ?_
      refine WPK.seq ?_
      refine WPK.cut' (fun E ds wz => ∀ X : Kont, (∀ (I3400 : Nat → Prop) (x3398 : Bool) (D3397 : List Value) (w' : World), g18_j2 x3398 = some r → St w0 M I3400 (F) w' → Kp I w I3400 w' → X [.pointer none, .pointer none, (D3397.getD 0 undef), (D3397.getD 1 undef), .bool x3398, (D3397.getD 2 undef), (D3397.getD 3 undef), (D3397.getD 4 undef), (D3397.getD 5 undef), (D3397.getD 6 undef), (D3397.getD 7 undef), (D3397.getD 8 undef), (D3397.getD 9 undef), (D3397.getD 10 undef), (D3397.getD 11 undef), (D3397.getD 12 undef), (D3397.getD 13 undef), undef, undef, undef, undef, undef, undef, undef, undef, undef, undef, undef, undef, undef, (D3397.getD 14 undef), undef, undef, undef, (D3397.getD 15 undef), undef, undef] [] w') → X E ds wz) ?_ ?_
      · intro X3401 hX3402
        refine fun _ _ _ hJ => hJ X3401 ?_
        intro I3400 x3398 D3397 w3399 hf s kk
        refine hX3402 _ _ _ ?_
        unfold g18_j2 at hf
        refine WPK.ret (?_)
        obtain rfl := someS hf
        refine Fin.of (rs := [.tmp 4]) hT [] (.bool x3398) [] rfl (by kernel_rfl) (trivial) ?_
        exact fun X h => vc rfl (h I3400 _ s kk)
      · refine WPK.region ?_
        refine RW.seg hT 1 [] [] [.pointer none] [] (by kernel_rfl) (trivial) ?_
        obtain ⟨x3403, hx3404, hf⟩ := bindS hf
        refine RW.op (by kernel_rfl) (OK.call' en34 (by kernel_rfl) (c34 (F := F) s hx3404) ?_)
        intro X3407 hX3408
        refine fun _ _ hJ => hJ X3407 ?_
        intro I3409 w3405 s k3406
        refine hX3408 _ _ ?_
        replace kk := kk.trans k3406
        by_cases h3410 : x3403 = true
        · have hf := iteT h3410 hf
          refine RW.seg hT 2 [] [(13, .bool true)] [.bool true, .pointer none] [.veq (.bool (x3403)) (.bool true)] (by kernel_rfl) (b_t h3410) ?_
          obtain ⟨x3411, hx3412, hf⟩ := bindS hf
          refine RW.op (by kernel_rfl) (OK.call' en34 (by kernel_rfl) (c34 (F := F) s hx3412) ?_)
          intro X3415 hX3416
          refine fun _ _ hJ => hJ X3415 ?_
          intro I3417 w3413 s k3414
          refine hX3416 _ _ ?_
          replace kk := kk.trans k3414
          refine RW.seg hT 2 [] [] [.bool x3411, .bool x3411] [] (by kernel_rfl) (trivial) ?_
          refine RW.nil ?_
          exact fun X h => kc (by kernel_rfl) rfl (h I3417 x3411 [(D3377.getD 0 undef), (D3377.getD 1 undef), (D3377.getD 2 undef), (D3377.getD 3 undef), (D3377.getD 4 undef), (D3377.getD 5 undef), (D3377.getD 6 undef), .bool x3378, .pointer none, .bool x3403, .bool true, .pointer none, .bool x3411, .bool x3411, (D3377.getD 9 undef), (D3377.getD 10 undef)] _ hf s kk)
        · have hf := iteF h3410 hf
          refine RW.seg hT 5 [] [(13, .bool false)] [.bool false, undef, undef, .bool false, .bool false] [.veq (.bool (x3403)) (.bool false)] (by kernel_rfl) (b_f h3410) ?_
          refine RW.nil ?_
          exact fun X h => kc (by kernel_rfl) rfl (h I3409 false [(D3377.getD 0 undef), (D3377.getD 1 undef), (D3377.getD 2 undef), (D3377.getD 3 undef), (D3377.getD 4 undef), (D3377.getD 5 undef), (D3377.getD 6 undef), .bool x3378, .pointer none, .bool x3403, .bool false, undef, undef, .bool false, (D3377.getD 9 undef), (D3377.getD 10 undef)] _ hf s kk)
    · have hf := iteF h3381 hf
      refine WPK.condF (Eq.trans (b := .bool x3378) (by kernel_rfl) (b_f h3381)) ?_
      refine WPK.skip ?_
      refine WPK.seq ?_
      have kS3427 : Kp I3380 w3379 I3380 w3379 := Kp.refl
      refine WPK.draw (fun w' => ∃ I' : Nat → Prop, St w0 M I' (F) w' ∧ Kp I3380 w3379 I' w') 21 (by kernel_rfl) ?_
      intro w3424 hd3425
      have k3426 := Kp.dr s hd3425
      replace s := s.dr hd3425
      replace kk := kk.trans k3426
      replace kS3427 := kS3427.trans k3426
      exact noneS hf
  · refine WPK.region ?_
    refine RW.seg hT 1 [] [] [.pointer none] [] (by kernel_rfl) (trivial) ?_
    obtain ⟨x3430, hx3431, hf⟩ := bindS hf
    refine RW.op (by kernel_rfl) (OK.call' en34 (by kernel_rfl) (c34 (F := F) s hx3431) ?_)
    intro X3434 hX3435
    refine fun _ _ hJ => hJ X3434 ?_
    intro I3436 w3432 s k3433
    refine hX3435 _ _ ?_
    replace kk := kk.trans k3433
    by_cases h3437 : x3430 = true
    · have hf := iteT h3437 hf
      refine RW.seg hT 4 [] [(7, .bool true)] [.bool true, undef, undef, .bool true] [.veq (.bool (x3430)) (.bool true)] (by kernel_rfl) (b_t h3437) ?_
      refine RW.nil ?_
      exact fun X h => kc (by kernel_rfl) rfl (h I3436 true [undef, undef, .pointer none, .bool x3430, .bool true, undef, undef, undef, undef, undef, undef] _ hf s kk)
    · have hf := iteF h3437 hf
      refine RW.seg hT 2 [] [(7, .bool false)] [.bool false, .pointer none] [.veq (.bool (x3430)) (.bool false)] (by kernel_rfl) (b_f h3437) ?_
      obtain ⟨x3438, hx3439, hf⟩ := bindS hf
      refine RW.op (by kernel_rfl) (OK.call' en34 (by kernel_rfl) (c34 (F := F) s hx3439) ?_)
      intro X3442 hX3443
      refine fun _ _ hJ => hJ X3442 ?_
      intro I3444 w3440 s k3441
      refine hX3443 _ _ ?_
      replace kk := kk.trans k3441
      refine RW.seg hT 1 [] [] [.bool x3438] [] (by kernel_rfl) (trivial) ?_
      refine RW.nil ?_
      exact fun X h => kc (by kernel_rfl) rfl (h I3444 x3438 [undef, undef, .pointer none, .bool x3430, .bool false, .pointer none, .bool x3438, undef, undef, undef, undef] _ hf s kk)
theorem c34_1 {w0 w : World} {M I : Nat → Prop} {F : List It} (p0 : T_extent_Set) (b7487 : Nat) (A7488 : Option Addr) (n7489 : Nat) (c7490 : Nat) (cl7491 : List Value) (hn7492 : n7489 = p0.w.length) (rp7493 : RepL (Rp.int .u64) I w cl7491 p0.w) (s : St w0 M I ((.blk b7487 (.cells #[.int .i64 p0.n, .slice A7488 n7489 c7490] 53 (0, 0))) :: (.sl (.slice A7488 n7489 c7490) 61 1 n7489 cl7491) :: F) w) {r : Bool} (hf : g34_1 p0 = some r) :
    Ret Tryd.prog 34 [.pointer (some ⟨b7487, 0, none⟩)] w fun v wz => ∀ X : Value → World → Prop, (∀ (I' : Nat → Prop) (w' : World), St w0 M I' ((.blk b7487 (.cells #[.int .i64 p0.n, .slice A7488 n7489 c7490] 53 (0, 0))) :: (.sl (.slice A7488 n7489 c7490) 61 1 n7489 cl7491) :: F) w' → Kp I w I' w' → X (.bool r) w') → X v wz := by
  have kk : Kp I w I w := Kp.refl
  unfold g34_1 at hf
  refine Ret.of Tryd.func34 rfl ?_
  refine WPK.seq ?_
  refine WPK.region ?_
  refine RW.seg hT 1 [] [] [.bool false] [] (by kernel_rfl) (trivial) ?_
  refine RW.nil ?_
  refine WPK.seq ?_
  refine WPK.region ?_
  refine RW.seg hT 10 [.int .i64 p0.n] [(10, .bool (decide (p0.n = 0)))] [.pointer (some ⟨b7487, 0, none⟩), .bool false, .bool false, .pointer (some ⟨b7487, 0, none⟩), .pointer (some ⟨b7487, 0, none⟩), .pointer (some ⟨b7487, 0, none⟩), .int .i64 p0.n, .bool (decide (p0.n = 0)), .bool (decide (p0.n = 0)), .bool (decide (p0.n = 0))] [.cell ⟨b7487, 0, none⟩ (.int .i64 p0.n), .veq (.bool (p0.n == 0)) (.bool (decide (p0.n = 0)))] (by kernel_rfl) (⟨s.cell (i := 0) (off := 0) rfl rfl, eq_v⟩) ?_
  refine RW.nil ?_
  refine WPK.ret (?_)
  obtain rfl := someS hf
  refine Fin.of (rs := [.tmp 2]) hT [] (.bool (decide (p0.n = 0))) [] rfl (by kernel_rfl) (trivial) ?_
  exact fun X h => vc rfl (h I _ s kk)
theorem c37 {w0 w : World} {M I : Nat → Prop} {F : List It} (p0 : (List Int)) (A7540 : Option Addr) (c7541 : Nat) (hc7542 : (p0.length ≤ c7541 ∧ c7541 ≤ 9223372036854775807)) (e7543 : Elems (Rp.int .u64) I w A7540 p0) (s : St w0 M I (F) w) {r : (List Int)} (hf : g37 p0 = some r) :
    Ret Tryd.prog 37 [.slice A7540 p0.length c7541] w fun v wz => ∀ X : Value → World → Prop, (∀ (I' : Nat → Prop) (A7566 : Option Addr) (n7567 : Nat) (c7568 : Nat) (cl7569 : List Value) (w' : World), St w0 M I' ((.sl (.slice A7566 n7567 c7568) 61 1 n7567 cl7569) :: F) w' → Kp I w I' w' → n7567 = r.length → RepL (Rp.int .u64) I' w' cl7569 r → X (.slice A7566 n7567 c7568) w') → X v wz := by
  have kk : Kp I w I w := Kp.refl
  unfold g37 at hf
  refine Ret.of Tryd.func37 rfl ?_
  refine WPK.seq ?_
  refine WPK.region ?_
  refine RW.seg hT 1 [] [] [.slice none 0 0] [] (by kernel_rfl) (trivial) ?_
  refine RW.nil ?_
  refine WPK.seq ?_
  refine WPK.seq ?_
  refine WPK.region ?_
  refine RW.seg hT 1 [] [] [.slice A7540 p0.length c7541] [] (by kernel_rfl) (trivial) ?_
  rcases A7540 with _ | a7548
  · have hx7547 : p0 = [] := Elems.none_nil e7543
    replace hf : (some ([] : List Int)) = some r := by simpa [hx7547, appI, List.length_nil] using hf
    refine RW.seg hT 1 [] [] [.bool true] [] (by kernel_rfl) (trivial) ?_
    refine RW.nil ?_
    refine WPK.condT (by kernel_rfl) ?_
    refine WPK.seq ?_
    refine WPK.region ?_
    refine RW.seg hT 1 [] [] [.slice none 0 0] [] (by kernel_rfl) (trivial) ?_
    refine RW.nil ?_
    refine WPK.ret (?_)
    obtain rfl := someS hf
    refine Fin.of (rs := [.tmp 2]) hT [] (.slice none 0 0) [] rfl (by kernel_rfl) (trivial) ?_
    replace s := s.pushNil 61 1
    exact fun X h => vc rfl (h I none 0 0 [] _ s kk rfl (RepL.nil (r := (Rp.int .u64))))
  · refine RW.seg hT 1 [] [] [.bool false] [] (by kernel_rfl) (trivial) ?_
    refine RW.nil ?_
    refine WPK.condF (by kernel_rfl) ?_
    refine WPK.skip ?_
    refine WPK.seq ?_
    refine WPK.region ?_
    refine RW.op (by kernel_rfl) (OK.new hT (f := fun b => .slice (some ⟨b, 0, none⟩) 0 0) (cs := []) (e := 61) (c := .tt) s (by kernel_rfl) trivial ?_)
    rintro w7550 b7551 s k7552 -
    replace e7543 := e7543.st k7552
    replace kk := kk.trans k7552
    have rp7553 : RepL (Rp.int .u64) I w7550 [] ([] : List Int) := RepL.nil
    replace s : St w0 M I ((.sl (.slice (some ⟨b7551, 0, none⟩) 0 0) 61 1 0 []) :: F) w7550 := s.blkSl (i := 0) (n := 0) (c := 0) (size := 1) rfl rfl (Nat.le_refl _) (by decide)
    refine RW.seg hT 1 [] [] [.slice (some a7548) p0.length c7541] [] (by kernel_rfl) (trivial) ?_
    obtain ⟨nw7555, hs7556, rq7557⟩ := Elems.src e7543
    obtain ⟨x7558, hx7559, hf⟩ := bindS hf
    refine RW.op (by kernel_rfl) (OK.app hT (r := (Rp.int .u64)) (i := 0) (t := 51) (e := 61) (size := 1) (bytes := 8) (c := 0) (n := 0) (m := p0.length) s (by kernel_rfl) rfl rfl rfl rfl rfl (by decide) rfl rfl rfl rfl rp7553 hs7556 rq7557 flat_int rfl hx7559 ?_)
    rintro A7560 c7561 cl7562 w7563 s k7564 rp7565
    replace e7543 := e7543.st k7564
    replace rp7553 := rp7553.st k7564
    replace kk := kk.trans k7564
    refine RW.seg hT 1 [] [] [.slice A7560 x7558.length c7561] [] (by kernel_rfl) (trivial) ?_
    refine RW.nil ?_
    refine WPK.ret (?_)
    obtain rfl := someS hf
    refine Fin.of (rs := [.tmp 2]) hT [] (.slice A7560 x7558.length c7561) [] rfl (by kernel_rfl) (trivial) ?_
    exact fun X h => vc rfl (h I A7560 x7558.length c7561 cl7562 _ s kk rfl rp7565)
theorem c21_1 {w0 w : World} {M I : Nat → Prop} {F : List It} (p0 : T_extent_Set) (b7597 : Nat) (A7598 : Option Addr) (n7599 : Nat) (c7600 : Nat) (cl7601 : List Value) (hn7602 : n7599 = p0.w.length) (rp7603 : RepL (Rp.int .u64) I w cl7601 p0.w) (s : St w0 M I ((.blk b7597 (.cells #[.int .i64 p0.n, .slice A7598 n7599 c7600] 53 (0, 0))) :: (.sl (.slice A7598 n7599 c7600) 61 1 n7599 cl7601) :: F) w) {r : (Option T_extent_Set)} (hf : g21_1 p0 = some r) :
    Ret Tryd.prog 21 [.pointer (some ⟨b7597, 0, none⟩)] w fun v wz => ∀ X : Value → World → Prop, (∀ (I' : Nat → Prop) (w' : World), r = none → St w0 M I' ((.blk b7597 (.cells #[.int .i64 p0.n, .slice A7598 n7599 c7600] 53 (0, 0))) :: (.sl (.slice A7598 n7599 c7600) 61 1 n7599 cl7601) :: F) w' → Kp I w I' w' → X (.pointer none) w') → (∀ (y : T_extent_Set) (I' : Nat → Prop) (b7650 : Nat) (A7651 : Option Addr) (n7652 : Nat) (c7653 : Nat) (cl7654 : List Value) (w' : World), r = some y → St w0 M I' ((.blk b7650 (.cells #[.int .i64 y.n, .slice A7651 n7652 c7653] 53 (0, 0))) :: (.sl (.slice A7651 n7652 c7653) 61 1 n7652 cl7654) :: (.blk b7597 (.cells #[.int .i64 p0.n, .slice A7598 n7599 c7600] 53 (0, 0))) :: (.sl (.slice A7598 n7599 c7600) 61 1 n7599 cl7601) :: F) w' → Kp I w I' w' → n7652 = y.w.length → RepL (Rp.int .u64) I' w' cl7654 y.w → X (.pointer (some ⟨b7650, 0, none⟩)) w') → X v wz := by
  have kk : Kp I w I w := Kp.refl
  unfold g21_1 at hf
  refine Ret.of Tryd.func21 rfl ?_
  refine WPK.seq ?_
  refine WPK.region ?_
  refine RW.seg hT 1 [] [] [.pointer none] [] (by kernel_rfl) (trivial) ?_
  refine RW.nil ?_
  refine WPK.seq ?_
  refine WPK.seq ?_
  refine WPK.region ?_
  refine RW.seg hT 1 [] [] [.pointer (some ⟨b7597, 0, none⟩)] [] (by kernel_rfl) (trivial) ?_
  obtain ⟨x7613, hx7614, hf⟩ := bindS hf
  refine RW.op (by kernel_rfl) (OK.call' en34 (by kernel_rfl) (c34_1 (F := F) p0 b7597 A7598 n7599 c7600 cl7601 hn7602 rp7603 s hx7614) ?_)
  intro X7617 hX7618
  refine fun _ _ hJ => hJ X7617 ?_
  intro I7619 w7615 s k7616
  refine hX7618 _ _ ?_
  replace rp7603 := rp7603.st k7616
  replace kk := kk.trans k7616
  refine RW.nil ?_
  by_cases h7620 : x7613 = true
  · have hf := iteT h7620 hf
    refine WPK.condT (Eq.trans (b := .bool x7613) (by kernel_rfl) (b_t h7620)) ?_
    refine WPK.seq ?_
    refine WPK.region ?_
    refine RW.seg hT 1 [] [] [.pointer none] [] (by kernel_rfl) (trivial) ?_
    refine RW.nil ?_
    refine WPK.ret (?_)
    obtain rfl := someS hf
    refine Fin.of (rs := [.tmp 2]) hT [] (.pointer none) [] rfl (by kernel_rfl) (trivial) ?_
    exact fun X h h' => vc rfl (h I7619 _ rfl s kk)
  · have hf := iteF h7620 hf
    refine WPK.condF (Eq.trans (b := .bool x7613) (by kernel_rfl) (b_f h7620)) ?_
    refine WPK.skip ?_
    refine WPK.seq ?_
    have rp7603S7621 := rp7603
    have kS7625 : Kp I7619 w7615 I7619 w7615 := Kp.refl
    refine WPK.draw (fun w' => ∃ I' : Nat → Prop, St w0 M I' ((.blk b7597 (.cells #[.int .i64 p0.n, .slice A7598 n7599 c7600] 53 (0, 0))) :: (.sl (.slice A7598 n7599 c7600) 61 1 n7599 cl7601) :: F) w' ∧ Kp I7619 w7615 I' w') 12 (by kernel_rfl) ?_
    intro w7622 hd7623
    have k7624 := Kp.dr s hd7623
    replace s := s.dr hd7623
    replace rp7603 := rp7603.st k7624
    replace kk := kk.trans k7624
    replace kS7625 := kS7625.trans k7624
    refine RD.seg hT (by kernel_rfl) [0, 1, 2, 3, 4, 5, 6, 7] [.int .i64 p0.n, .slice A7598 n7599 c7600] [] [.pointer (some ⟨b7597, 0, none⟩), .pointer (some ⟨b7597, 0, none⟩), .pointer (some ⟨b7597, 0, none⟩), .int .i64 p0.n, .pointer (some ⟨b7597, 0, none⟩), .pointer (some ⟨b7597, 0, none⟩), .pointer (some ⟨b7597, 1, none⟩), .slice A7598 n7599 c7600] [.cell ⟨b7597, 0, none⟩ (.int .i64 p0.n), .cell ⟨b7597, 1, none⟩ (.slice A7598 n7599 c7600)] (by kernel_rfl) (by rintro w' ⟨I', s, k⟩; have rp7603 := rp7603S7621.st k; exact ⟨s.cell (i := 0) (off := 0) rfl rfl, s.cell (i := 0) (off := 1) rfl rfl⟩) ⟨_, s.pick [0, 1] 2 rfl, kS7625⟩ ?_
    have sa7626 := s
    obtain ⟨hc7627, e7628⟩ := St.lend s (i := 1) rfl hn7602 rp7603
    have k7629 := Kp.shut (I := I7619) (w := w7622) (p := .sl (.slice A7598 n7599 c7600) 61 1 n7599 cl7601)
    replace s := s.shut 1 rfl
    obtain ⟨x7630, hx7631, hf⟩ := bindS hf
    have hc7634 := c37 (F := (.blk b7597 (.cells #[.int .i64 p0.n, .slice A7598 n7599 c7600] 53 (0, 0))) :: F) p0.w A7598 c7600 hc7627 e7628 s hx7631
    rw [← hn7602] at hc7634
    refine RD.op (i := 8) rfl (by kernel_rfl) (by kernel_rfl) (OK.call' en37 (by kernel_rfl) (hc7634) ?_)
    intro X7635 hX7636
    refine fun _ _ hJ => hJ X7635 ?_
    intro I7637 A7638 n7639 c7640 cl7641 w7632 s k7633 hn7642 rp7643
    refine hX7636 _ _ ?_
    have s' := St.back sa7626 (i := 1) rfl s k7633
    replace k7633 := Kp.back sa7626 (i := 1) rfl k7633
    replace s := s'; clear s'
    obtain ⟨I7646, s, k7633⟩ : ∃ I : Nat → Prop, St w0 M I ((.sl (.slice A7598 n7599 c7600) 61 1 n7599 cl7601) :: (.sl (.slice A7638 n7639 c7640) 61 1 n7639 cl7641) :: (.blk b7597 (.cells #[.int .i64 p0.n, .slice A7598 n7599 c7600] 53 (0, 0))) :: F) w7632 ∧ Kp _ _ I _ := ⟨_, s, k7633⟩
    replace rp7643 := RepL.free (I' := I7646) (w' := w7632) free_int rp7643
    replace rp7603 := rp7603.st k7633
    replace kk := kk.trans k7633
    replace kS7625 := kS7625.trans k7633
    refine ⟨fun _ => ⟨_, s.pick [2, 0] 3 rfl, kS7625⟩, RD.fold ?_⟩
    refine RD.seg hT (by kernel_rfl) [9] [] [] [.agg #[.int .i64 p0.n, .slice A7638 n7639 c7640]] [] (by kernel_rfl) (fun _ _ => trivial) ⟨_, s.pick [2, 0] 3 rfl, kS7625⟩ ?_
    refine RD.op (i := 10) rfl (by kernel_rfl) (by kernel_rfl) (OK.new hT (f := fun b => .pointer (some ⟨b, 0, none⟩)) (cs := [.int .i64 p0.n, .slice A7638 n7639 c7640]) (e := 53) (c := .tt) s (by kernel_rfl) trivial ?_)
    rintro w7647 b7648 s k7649 -
    replace rp7603 := rp7603.st k7649
    replace rp7643 := rp7643.st k7649
    replace kk := kk.trans k7649
    replace kS7625 := kS7625.trans k7649
    refine ⟨fun _ => ⟨_, s.pick [3, 1] 4 rfl, kS7625⟩, RD.fold ?_⟩
    refine RD.seg hT (by kernel_rfl) [11] [] [] [.pointer (some ⟨b7648, 0, none⟩)] [] (by kernel_rfl) (fun _ _ => trivial) ⟨_, s.pick [3, 1] 4 rfl, kS7625⟩ ?_
    refine RD.done (by kernel_rfl) ?_
    refine WPK.ret (?_)
    obtain rfl := someS hf
    refine Fin.of (rs := [.tmp 2]) hT [] (.pointer (some ⟨b7648, 0, none⟩)) [] rfl (by kernel_rfl) (trivial) ?_
    replace s := s.pick [0, 2, 3, 1] 4 rfl
    exact fun X h h' => vc rfl (h' (T_extent_Set.mk p0.n x7630) I7646 b7648 A7638 n7639 c7640 cl7641 _ rfl s kk hn7642 rp7643)
theorem c16_1 {w0 w : World} {M I : Nat → Prop} {F : List It} (p0 : T_extent_Set) (b7947 : Nat) (A7948 : Option Addr) (n7949 : Nat) (c7950 : Nat) (cl7951 : List Value) (hn7952 : n7949 = p0.w.length) (rp7953 : RepL (Rp.int .u64) I w cl7951 p0.w) (s : St w0 M I ((.blk b7947 (.cells #[.int .i64 p0.n, .slice A7948 n7949 c7950] 53 (0, 0))) :: (.sl (.slice A7948 n7949 c7950) 61 1 n7949 cl7951) :: F) w) {r : (Option T_extent_Set)} (hf : g16_1 p0 = some r) :
    Ret Tryd.prog 16 [.pointer (some ⟨b7947, 0, none⟩)] w fun v wz => ∀ X : Value → World → Prop, (∀ (I' : Nat → Prop) (w' : World), r = none → St w0 M I' ((.blk b7947 (.cells #[.int .i64 p0.n, .slice A7948 n7949 c7950] 53 (0, 0))) :: (.sl (.slice A7948 n7949 c7950) 61 1 n7949 cl7951) :: F) w' → Kp I w I' w' → X (.pointer none) w') → (∀ (y : T_extent_Set) (I' : Nat → Prop) (b8244 : Nat) (A8245 : Option Addr) (n8246 : Nat) (c8247 : Nat) (cl8248 : List Value) (w' : World), r = some y → St w0 M I' ((.blk b8244 (.cells #[.int .i64 y.n, .slice A8245 n8246 c8247] 53 (0, 0))) :: (.sl (.slice A8245 n8246 c8247) 61 1 n8246 cl8248) :: (.blk b7947 (.cells #[.int .i64 p0.n, .slice A7948 n7949 c7950] 53 (0, 0))) :: (.sl (.slice A7948 n7949 c7950) 61 1 n7949 cl7951) :: F) w' → Kp I w I' w' → n8246 = y.w.length → RepL (Rp.int .u64) I' w' cl8248 y.w → X (.pointer (some ⟨b8244, 0, none⟩)) w') → X v wz := by
  have kk : Kp I w I w := Kp.refl
  unfold g16_1 at hf
  refine Ret.of Tryd.func16 rfl ?_
  refine WPK.seq ?_
  refine WPK.region ?_
  refine RW.seg hT 1 [] [] [.pointer none] [] (by kernel_rfl) (trivial) ?_
  refine RW.nil ?_
  refine WPK.seq ?_
  refine WPK.region ?_
  refine RW.seg hT 1 [] [] [.pointer (some ⟨b7947, 0, none⟩)] [] (by kernel_rfl) (trivial) ?_
  obtain ⟨x7955, hx7956, hf⟩ := bindS hf
  refine RW.op (by kernel_rfl) (OK.call' en21 (by kernel_rfl) (c21_1 (F := F) p0 b7947 A7948 n7949 c7950 cl7951 hn7952 rp7953 s hx7956) ?_)
  intro X7959 hX7960
  refine fun _ _ hJ => hJ X7959 ?_ ?_
  · intro I7961 w7957 hv s k7958
    refine hX7960 _ _ ?_
    replace hf := optN hv hf
    replace rp7953 := rp7953.st k7958
    replace kk := kk.trans k7958
    refine RW.seg hT 1 [] [] [.pointer none] [] (by kernel_rfl) (trivial) ?_
    refine RW.nil ?_
    refine WPK.seq ?_
    refine WPK.seq ?_
    refine WPK.region ?_
    refine RW.seg hT 2 [] [] [.pointer none, .bool true] [] (by kernel_rfl) (trivial) ?_
    refine RW.nil ?_
    refine WPK.condT (by kernel_rfl) ?_
    refine WPK.seq ?_
    refine WPK.region ?_
    refine RW.seg hT 1 [] [] [.pointer none] [] (by kernel_rfl) (trivial) ?_
    refine RW.nil ?_
    refine WPK.ret (?_)
    obtain rfl := someS hf
    refine Fin.of (rs := [.tmp 2]) hT [] (.pointer none) [] rfl (by kernel_rfl) (trivial) ?_
    exact fun X h h' => vc rfl (h I7961 _ rfl s kk)
  · intro x7963 I7962 b7964 A7965 n7966 c7967 cl7968 w7957 hv s k7958 hn7969 rp7970
    refine hX7960 _ _ ?_
    replace hf := optS hv hf
    replace rp7953 := rp7953.st k7958
    replace kk := kk.trans k7958
    refine RW.seg hT 1 [] [] [.pointer (some ⟨b7964, 0, none⟩)] [] (by kernel_rfl) (trivial) ?_
    refine RW.nil ?_
    refine WPK.seq ?_
    refine WPK.seq ?_
    refine WPK.region ?_
    refine RW.seg hT 2 [] [] [.pointer (some ⟨b7964, 0, none⟩), .bool false] [] (by kernel_rfl) (trivial) ?_
    refine RW.nil ?_
    refine WPK.condF (by kernel_rfl) ?_
    refine WPK.skip ?_
    refine WPK.seq ?_
    refine WPK.seq ?_
    refine WPK.region ?_
    refine RW.seg hT 6 [.slice A7965 n7966 c7967] [(14, .int .i64 (x7963.w.length : Int))] [.pointer (some ⟨b7964, 0, none⟩), .pointer (some ⟨b7964, 0, none⟩), .pointer (some ⟨b7964, 1, none⟩), .slice A7965 n7966 c7967, .int .i64 (x7963.w.length : Int), .int .i64 0] [.cell ⟨b7964, 1, none⟩ (.slice A7965 n7966 c7967), .veq (.int .i64 (n7966 : Nat)) (.int .i64 (x7963.w.length : Int))] (by kernel_rfl) (⟨s.cell (i := 0) (off := 1) rfl rfl, len_v hn7969⟩) ?_
    refine RW.nil ?_
    refine WPK.block ?_
    refine WPK.loop' (J := fun n8146 E ds wz => ∀ X : Kont, (∀ (I8114 : Nat → Prop) (x8108 : Int) (x8109 : (List Int)) (D8107 : List Value) (cl8110 : List Value) (w' : World), g16_1_l1 x7963 n8146 x8108 x8109 = some r → St w0 M I8114 ((.blk b7964 (.cells #[.int .i64 x7963.n, .slice A7965 n7966 c7967] 53 (0, 0))) :: (.sl (.slice A7965 n7966 c7967) 61 1 n7966 cl8110) :: (.blk b7947 (.cells #[.int .i64 p0.n, .slice A7948 n7949 c7950] 53 (0, 0))) :: (.sl (.slice A7948 n7949 c7950) 61 1 n7949 cl7951) :: F) w' → Kp I w I8114 w' → n7966 = x8109.length → RepL (Rp.int .u64) I8114 w' cl8110 x8109 → RepL (Rp.int .u64) I8114 w' cl7951 p0.w → X [(D8107.getD 0 undef), (D8107.getD 1 undef), .pointer none, .pointer (some ⟨b7964, 0, none⟩), (D8107.getD 2 undef), undef, (D8107.getD 3 undef), (D8107.getD 4 undef), (D8107.getD 5 undef), (D8107.getD 6 undef), (D8107.getD 7 undef), (D8107.getD 8 undef), (D8107.getD 9 undef), (D8107.getD 10 undef), .int .i64 (x7963.w.length : Int), .int .i64 x8108, (D8107.getD 11 undef), (D8107.getD 12 undef), (D8107.getD 13 undef), (D8107.getD 14 undef), (D8107.getD 15 undef), (D8107.getD 16 undef), (D8107.getD 17 undef), (D8107.getD 18 undef), (D8107.getD 19 undef), (D8107.getD 20 undef), (D8107.getD 21 undef), (D8107.getD 22 undef), (D8107.getD 23 undef), (D8107.getD 24 undef), (D8107.getD 25 undef), (D8107.getD 26 undef), (D8107.getD 27 undef), undef, undef, undef, undef, undef, undef, undef, undef, undef, undef, undef, undef, undef, undef, (D8107.getD 28 undef), undef, undef, undef, undef, undef, undef, undef, undef, undef, undef, undef] [] w') → X E ds wz) FUEL (fun X h => kc (by kernel_rfl) rfl (h I7962 0 x7963.w [.pointer (some ⟨b7947, 0, none⟩), undef, undef, .pointer (some ⟨b7947, 0, none⟩), .pointer (some ⟨b7964, 0, none⟩), .pointer (some ⟨b7964, 0, none⟩), .bool false, .pointer (some ⟨b7964, 0, none⟩), .pointer (some ⟨b7964, 0, none⟩), .pointer (some ⟨b7964, 1, none⟩), .slice A7965 n7966 c7967, undef, undef, undef, undef, undef, undef, undef, undef, undef, undef, undef, undef, undef, undef, undef, undef, undef, undef] cl7968 _ hf s kk hn7969 rp7970 rp7953)) (fun _ _ _ hJ => hJ (fun _ _ _ => False) (by intro I8114 x8108 x8109 D8107 cl8110 w8113 hf s kk hn8111 rp8112 rp7953; exact noneS hf)) ?_
    intro X8242 hX8243
    refine fun n8146 _ _ _ hJ => hJ (X8242 n8146) ?_
    intro I8114 x8108 x8109 D8107 cl8110 w8113 hf s kk hn8111 rp8112 rp7953
    refine hX8243 _ _ _ _ ?_
    replace hf : g16_1_l1B x7963 (g16_1_l1 x7963 n8146) x8108 x8109 = some r := hf
    generalize hrec8147 : g16_1_l1 x7963 n8146 = rec8145 at hf
    unfold g16_1_l1B at hf
    refine WPK.seq ?_
    refine WPK.region ?_
    refine RW.seg hT 1 [] [] [.bool (decide (x8108 < (x7963.w.length : Int)))] [] (by kernel_rfl) (trivial) ?_
    refine RW.nil ?_
    refine WPK.seq ?_
    by_cases h8149 : x8108 < (x7963.w.length : Int)
    · have hf := iteT h8149 hf
      refine WPK.condT (Eq.trans (b := .bool (decide (x8108 < (x7963.w.length : Int)))) (by kernel_rfl) (bo_t h8149)) ?_
      refine WPK.skip ?_
      refine WPK.seq ?_
      refine WPK.block ?_
      refine WPK.seq ?_
      refine WPK.region ?_
      refine RW.seg hT 2 [] [] [.int .i64 x8108, .int .i64 x8108] [] (by kernel_rfl) (trivial) ?_
      refine RW.nil ?_
      have rp8112S8150 := rp8112
      have rp7953S8150 := rp7953
      have kS8154 : Kp I8114 w8113 I8114 w8113 := Kp.refl
      refine WPK.draw (fun w' => ∃ I' : Nat → Prop, St w0 M I' ((.blk b7964 (.cells #[.int .i64 x7963.n, .slice A7965 n7966 c7967] 53 (0, 0))) :: (.sl (.slice A7965 n7966 c7967) 61 1 n7966 cl8110) :: (.blk b7947 (.cells #[.int .i64 p0.n, .slice A7948 n7949 c7950] 53 (0, 0))) :: (.sl (.slice A7948 n7949 c7950) 61 1 n7949 cl7951) :: F) w' ∧ Kp I8114 w8113 I' w') 14 (by kernel_rfl) ?_
      intro w8151 hd8152
      have k8153 := Kp.dr s hd8152
      replace s := s.dr hd8152
      replace rp8112 := rp8112.st k8153
      replace rp7953 := rp7953.st k8153
      replace kk := kk.trans k8153
      replace kS8154 := kS8154.trans k8153
      obtain ⟨x8155, hx8156, hf⟩ := bindS hf
      obtain ⟨h8157, hx8156⟩ := getS hx8156
      obtain ⟨b8158, rfl⟩ := (St.elem s (i := 1) rfl hn8111 rp8112 hx8156).1
      obtain ⟨x8163, hx8164, hf⟩ := bindS hf
      obtain ⟨h8165, hx8164⟩ := getS hx8164
      refine RD.seg hT (by kernel_rfl) [0, 1, 2, 3, 4, 5, 6, 7, 8, 9, 10, 11, 12, 13] [.slice (some ⟨b8158, 0, none⟩) n7966 c7967, .slice (some ⟨b8158, 0, none⟩) n7966 c7967, .int .u64 x8155] [] [.pointer (some ⟨b7964, 0, none⟩), .pointer (some ⟨b7964, 0, none⟩), .pointer (some ⟨b7964, 1, none⟩), .slice (some ⟨b8158, 0, none⟩) n7966 c7967, .int .i64 x8108, .pointer (some ⟨b7964, 0, none⟩), .pointer (some ⟨b7964, 0, none⟩), .pointer (some ⟨b7964, 1, none⟩), .slice (some ⟨b8158, 0, none⟩) n7966 c7967, .int .i64 x8108, .pointer (some ⟨b8158, 0 + x8108.toNat * 1, none⟩), .int .u64 x8155, .int .u64 (cplI .u64 x8155), .pointer (some ⟨b8158, 0 + x8108.toNat * 1, none⟩)] [.cell ⟨b7964, 1, none⟩ (.slice (some ⟨b8158, 0, none⟩) n7966 c7967), .cell ⟨b7964, 1, none⟩ (.slice (some ⟨b8158, 0, none⟩) n7966 c7967), .idx x8108 n7966, .cell ⟨b8158, 0 + x8108.toNat * 1, none⟩ (.int .u64 x8155), .idx x8108 n7966] (by kernel_rfl) (by rintro w' ⟨I', s, k⟩; have rp8112 := rp8112S8150.st k; have rp7953 := rp7953S8150.st k; obtain ⟨-, cs8160, hr8161, ha8162⟩ := St.elem s (i := 1) rfl hn8111 rp8112 hx8156; replace ha8162 := ha8162 _ rfl; obtain rfl : cs8160 = [.int .u64 x8155] := hr8161; exact ⟨s.cell (i := 0) (off := 1) rfl rfl, s.cell (i := 0) (off := 1) rfl rfl, (by rw [hn8111]; exact h8157), ha8162 0 _ rfl, (by rw [hn8111]; exact h8165)⟩) ⟨_, s.pick [0, 1, 2, 3] 4 rfl, kS8154⟩ ?_
      obtain ⟨y8170, hy8171, hf⟩ := bindS hf
      obtain ⟨h8172, hq8173⟩ := setS hy8171
      obtain ⟨cl8174, hcl8175⟩ : ∃ q, setL cl8110 (0 + x8108.toNat * 1) [.int .u64 (cplI .u64 x8155)] = q := ⟨_, rfl⟩
      have rp8176 : RepL (Rp.int .u64) I8114 w8151 cl8174 y8170 := by rw [hq8173, ← hcl8175, Nat.zero_add]; exact RepL.set rp8112 (by omega) (rfl)
      have hn8177 : n7966 = y8170.length := by rw [hq8173, List.length_set]; exact hn8111
      refine RD.op (i := 14) rfl (by kernel_rfl) (by kernel_rfl) (OK.storeSl hT (i := 1) (b := b8158) (off := 0 + x8108.toNat * 1) (m := 1) (vs := [.int .u64 (cplI .u64 x8155)]) (c := c7967) (e := 61) (size := 1) (n := n7966) (cl := cl8110) (cl' := cl8174) s (by kernel_rfl) rfl rfl (flat_ok rfl) (by have h1 := RepL.length rp8112; simp only [List.length_cons, List.length_nil, h1]; exact row_bd (n := 1) h8172 rfl) hcl8175 ?_)
      rintro w8168 s k8169
      replace rp8176 := rp8176.st k8169
      replace rp7953 := rp7953.st k8169
      replace kk := kk.trans k8169
      replace kS8154 := kS8154.trans k8169
      refine ⟨fun h => absurd h (by decide), RD.fold ?_⟩
      refine RD.done (by kernel_rfl) ?_
      refine WPK.region ?_
      refine RW.seg hT 2 [] [] [.int .i64 (IntKind.i64.wrap (x8108 + 1)), .int .i64 (IntKind.i64.wrap (x8108 + 1))] [] (by kernel_rfl) (trivial) ?_
      refine RW.nil ?_
      subst hrec8147
      exact ⟨n8146, Nat.le_refl _, fun X h => kc (by kernel_rfl) rfl (h I8114 (IntKind.i64.wrap (x8108 + 1)) y8170 [(D8107.getD 0 undef), (D8107.getD 1 undef), .int .i64 x8108, (D8107.getD 3 undef), (D8107.getD 4 undef), (D8107.getD 5 undef), (D8107.getD 6 undef), (D8107.getD 7 undef), (D8107.getD 8 undef), (D8107.getD 9 undef), (D8107.getD 10 undef), .bool (decide (x8108 < (x7963.w.length : Int))), .int .i64 x8108, .pointer (some ⟨b7964, 0, none⟩), .pointer (some ⟨b7964, 0, none⟩), .pointer (some ⟨b7964, 1, none⟩), .slice (some ⟨b8158, 0, none⟩) n7966 c7967, .int .i64 x8108, .pointer (some ⟨b7964, 0, none⟩), .pointer (some ⟨b7964, 0, none⟩), .pointer (some ⟨b7964, 1, none⟩), .slice (some ⟨b8158, 0, none⟩) n7966 c7967, .int .i64 x8108, (.pointer (some ⟨b8158, 0 + x8108.toNat * 1, none⟩)), .int .u64 x8155, .int .u64 (cplI .u64 x8155), (.pointer (some ⟨b8158, 0 + x8108.toNat * 1, none⟩)), .int .i64 (IntKind.i64.wrap (x8108 + 1)), (D8107.getD 28 undef)] cl8174 _ hf s kk hn8177 rp8176 rp7953)⟩
    · have hf := iteF h8149 hf
      refine WPK.condF (Eq.trans (b := .bool (decide (x8108 < (x7963.w.length : Int)))) (by kernel_rfl) (bo_f h8149)) ?_
      refine WPK.exit (blockQ.same ?_)
      refine WPK.seq ?_
      refine WPK.seq ?_
      refine WPK.region ?_
      refine RW.seg hT 6 [.int .i64 x7963.n] [] [.pointer (some ⟨b7964, 0, none⟩), .pointer (some ⟨b7964, 0, none⟩), .pointer (some ⟨b7964, 0, none⟩), .int .i64 x7963.n, .int .i64 (Int.tmod x7963.n 64), .int .i64 (Int.tmod x7963.n 64)] [.cell ⟨b7964, 0, none⟩ (.int .i64 x7963.n), .ne0 64] (by kernel_rfl) (⟨s.cell (i := 0) (off := 0) rfl rfl, (show (64 : Int) ≠ 0 by decide)⟩) ?_
      refine RW.nil ?_
      refine WPK.seq ?_
      refine WPK.region ?_
      refine RW.seg hT 2 [] [] [.int .i64 (Int.tmod x7963.n 64), .bool (decide ((Int.tmod x7963.n 64) > 0))] [] (by kernel_rfl) (trivial) ?_
      refine RW.nil ?_
      by_cases h8210 : (Int.tmod x7963.n 64) > 0
      · have hf := iteT h8210 hf
        refine WPK.condT (Eq.trans (b := .bool (decide ((Int.tmod x7963.n 64) > 0))) (by kernel_rfl) (bo_t h8210)) ?_
        have rp8112S8211 := rp8112
        have rp7953S8211 := rp7953
        have kS8215 : Kp I8114 w8113 I8114 w8113 := Kp.refl
        refine WPK.draw (fun w' => ∃ I' : Nat → Prop, St w0 M I' ((.blk b7964 (.cells #[.int .i64 x7963.n, .slice A7965 n7966 c7967] 53 (0, 0))) :: (.sl (.slice A7965 n7966 c7967) 61 1 n7966 cl8110) :: (.blk b7947 (.cells #[.int .i64 p0.n, .slice A7948 n7949 c7950] 53 (0, 0))) :: (.sl (.slice A7948 n7949 c7950) 61 1 n7949 cl7951) :: F) w' ∧ Kp I8114 w8113 I' w') 18 (by kernel_rfl) ?_
        intro w8212 hd8213
        have k8214 := Kp.dr s hd8213
        replace s := s.dr hd8213
        replace rp8112 := rp8112.st k8214
        replace rp7953 := rp7953.st k8214
        replace kk := kk.trans k8214
        replace kS8215 := kS8215.trans k8214
        obtain ⟨x8216, hx8217, hf⟩ := bindS hf
        obtain ⟨h8218, hx8217⟩ := getS hx8217
        obtain ⟨b8219, rfl⟩ := (St.elem s (i := 1) rfl hn8111 rp8112 hx8217).1
        obtain ⟨h8224, hf⟩ := iteS hf
        obtain ⟨x8225, hx8226, hf⟩ := bindS hf
        obtain ⟨x8227, hx8228, hf⟩ := bindS hf
        obtain ⟨h8229, hx8228⟩ := getS hx8228
        refine RD.seg hT (by kernel_rfl) [0, 1, 2, 3, 4, 5, 6, 7, 8, 9, 10, 11, 12, 13, 14, 15, 16, 17] [.slice (some ⟨b8219, 0, none⟩) n7966 c7967, .slice (some ⟨b8219, 0, none⟩) n7966 c7967, .int .u64 x8216, undef] [(48, .int .i64 (x8109.length : Int)), (55, .int .u64 x8225)] [.pointer (some ⟨b7964, 0, none⟩), .pointer (some ⟨b7964, 0, none⟩), .pointer (some ⟨b7964, 1, none⟩), .slice (some ⟨b8219, 0, none⟩) n7966 c7967, .pointer (some ⟨b7964, 0, none⟩), .pointer (some ⟨b7964, 0, none⟩), .pointer (some ⟨b7964, 1, none⟩), .slice (some ⟨b8219, 0, none⟩) n7966 c7967, .int .i64 (x8109.length : Int), .int .i64 (IntKind.i64.wrap ((x8109.length : Int) - 1)), .pointer (some ⟨b8219, 0 + (IntKind.i64.wrap ((x8109.length : Int) - 1)).toNat * 1, none⟩), .int .u64 x8216, .int .i64 (Int.tmod x7963.n 64), .int .u64 (IntKind.u64.wrap (Int.tmod x7963.n 64)), .int .u64 (shlI .u64 1 (IntKind.u64.wrap (Int.tmod x7963.n 64))), .int .u64 x8225, .int .u64 (andI .u64 x8216 x8225), .pointer (some ⟨b8219, 0 + (IntKind.i64.wrap ((x8109.length : Int) - 1)).toNat * 1, none⟩)] [.cell ⟨b7964, 1, none⟩ (.slice (some ⟨b8219, 0, none⟩) n7966 c7967), .cell ⟨b7964, 1, none⟩ (.slice (some ⟨b8219, 0, none⟩) n7966 c7967), .veq (.int .i64 (n7966 : Nat)) (.int .i64 (x8109.length : Int)), .idx (IntKind.i64.wrap ((x8109.length : Int) - 1)) n7966, .cell ⟨b8219, 0 + (IntKind.i64.wrap ((x8109.length : Int) - 1)).toNat * 1, none⟩ (.int .u64 x8216), .nn (IntKind.u64.wrap (Int.tmod x7963.n 64)), .veq (.int .u64 (IntKind.u64.wrap ((shlI .u64 1 (IntKind.u64.wrap (Int.tmod x7963.n 64))) - 1))) (.int .u64 x8225), .idx (IntKind.i64.wrap ((x8109.length : Int) - 1)) n7966] (by kernel_rfl) (by rintro w' ⟨I', s, k⟩; have rp8112 := rp8112S8211.st k; have rp7953 := rp7953S8211.st k; obtain ⟨-, cs8221, hr8222, ha8223⟩ := St.elem s (i := 1) rfl hn8111 rp8112 hx8217; replace ha8223 := ha8223 _ rfl; obtain rfl : cs8221 = [.int .u64 x8216] := hr8222; exact ⟨s.cell (i := 0) (off := 1) rfl rfl, s.cell (i := 0) (off := 1) rfl rfl, len_v hn8111, (by rw [hn8111]; exact h8218), ha8223 0 _ rfl, h8224, int_v (someS hx8226), (by rw [hn8111]; exact h8229)⟩) ⟨_, s.pick [0, 1, 2, 3] 4 rfl, kS8215⟩ ?_
        obtain ⟨y8234, hy8235, hf⟩ := bindS hf
        obtain ⟨h8236, hq8237⟩ := setS hy8235
        obtain ⟨cl8238, hcl8239⟩ : ∃ q, setL cl8110 (0 + (IntKind.i64.wrap ((x8109.length : Int) - 1)).toNat * 1) [.int .u64 (andI .u64 x8216 x8225)] = q := ⟨_, rfl⟩
        have rp8240 : RepL (Rp.int .u64) I8114 w8212 cl8238 y8234 := by rw [hq8237, ← hcl8239, Nat.zero_add]; exact RepL.set rp8112 (by omega) (rfl)
        have hn8241 : n7966 = y8234.length := by rw [hq8237, List.length_set]; exact hn8111
        refine RD.op (i := 18) rfl (by kernel_rfl) (by kernel_rfl) (OK.storeSl hT (i := 1) (b := b8219) (off := 0 + (IntKind.i64.wrap ((x8109.length : Int) - 1)).toNat * 1) (m := 1) (vs := [.int .u64 (andI .u64 x8216 x8225)]) (c := c7967) (e := 61) (size := 1) (n := n7966) (cl := cl8110) (cl' := cl8238) s (by kernel_rfl) rfl rfl (flat_ok rfl) (by have h1 := RepL.length rp8112; simp only [List.length_cons, List.length_nil, h1]; exact row_bd (n := 1) h8236 rfl) hcl8239 ?_)
        rintro w8232 s k8233
        replace rp8240 := rp8240.st k8233
        replace rp7953 := rp7953.st k8233
        replace kk := kk.trans k8233
        replace kS8215 := kS8215.trans k8233
        refine ⟨fun h => absurd h (by decide), RD.fold ?_⟩
        refine RD.done (by kernel_rfl) ?_
        refine WPK.seq ?_
        refine WPK.region ?_
        refine RW.seg hT 2 [] [] [.pointer (some ⟨b7964, 0, none⟩), .pointer (some ⟨b7964, 0, none⟩)] [] (by kernel_rfl) (trivial) ?_
        refine RW.nil ?_
        refine WPK.ret (?_)
        obtain rfl := someS hf
        refine Fin.of (rs := [.tmp 2]) hT [] (.pointer (some ⟨b7964, 0, none⟩)) [] rfl (by kernel_rfl) (trivial) ?_
        exact fun X h h' => vc rfl (h' (T_extent_Set.mk x7963.n y8234) I8114 b7964 (some ⟨b8219, 0, none⟩) n7966 c7967 cl8238 _ rfl s kk hn8241 rp8240)
      · have hf := iteF h8210 hf
        refine WPK.condF (Eq.trans (b := .bool (decide ((Int.tmod x7963.n 64) > 0))) (by kernel_rfl) (bo_f h8210)) ?_
        refine WPK.skip ?_
        refine WPK.seq ?_
        refine WPK.region ?_
        refine RW.seg hT 2 [] [] [.pointer (some ⟨b7964, 0, none⟩), .pointer (some ⟨b7964, 0, none⟩)] [] (by kernel_rfl) (trivial) ?_
        refine RW.nil ?_
        refine WPK.ret (?_)
        obtain rfl := someS hf
        refine Fin.of (rs := [.tmp 2]) hT [] (.pointer (some ⟨b7964, 0, none⟩)) [] rfl (by kernel_rfl) (trivial) ?_
        exact fun X h h' => vc rfl (h' (T_extent_Set.mk x7963.n x8109) I8114 b7964 A7965 n7966 c7967 cl8110 _ rfl s kk hn8111 rp8112)
theorem c44 {w0 w : World} {M I : Nat → Prop} {F : List It} (p0 : Int) (eg0 : Elems (Rp.int .u8) I w (some ⟨0, 0, none⟩) TAB0) (s : St w0 M I (F) w) {r : Int} (hf : g44 p0 = some r) :
    Ret Tryd.prog 44 [.int .u64 p0] w fun v wz => ∀ X : Value → World → Prop, (∀ (I' : Nat → Prop) (w' : World), St w0 M I' (F) w' → Kp I w I' w' → X (.int .i64 r) w') → X v wz := by
  have kk : Kp I w I w := Kp.refl
  unfold g44 at hf
  refine Ret.of Tryd.func44 rfl ?_
  refine WPK.seq ?_
  refine WPK.region ?_
  refine RW.seg hT 1 [] [] [.int .i64 0] [] (by kernel_rfl) (trivial) ?_
  refine RW.nil ?_
  refine WPK.seq ?_
  refine WPK.seq ?_
  refine WPK.region ?_
  refine RW.seg hT 2 [] [(4, .bool (decide (p0 = 0)))] [.int .u64 p0, .bool (decide (p0 = 0))] [.veq (.bool (p0 == 0)) (.bool (decide (p0 = 0)))] (by kernel_rfl) (eq_v) ?_
  refine RW.nil ?_
  by_cases h8336 : p0 = 0
  · have hf := iteT h8336 hf
    refine WPK.condT (Eq.trans (b := .bool (decide (p0 = 0))) (by kernel_rfl) (bo_t h8336)) ?_
    refine WPK.seq ?_
    refine WPK.region ?_
    refine RW.seg hT 1 [] [] [.int .i64 64] [] (by kernel_rfl) (trivial) ?_
    refine RW.nil ?_
    refine WPK.ret (?_)
    obtain rfl := someS hf
    refine Fin.of (rs := [.tmp 2]) hT [] (.int .i64 64) [] rfl (by kernel_rfl) (trivial) ?_
    exact fun X h => vc rfl (h I _ s kk)
  · have hf := iteF h8336 hf
    refine WPK.condF (Eq.trans (b := .bool (decide (p0 = 0))) (by kernel_rfl) (bo_f h8336)) ?_
    refine WPK.skip ?_
    refine WPK.seq ?_
    refine WPK.region ?_
    obtain ⟨x8337, hx8338, hf⟩ := bindS hf
    obtain ⟨x8339, hx8340, hf⟩ := bindS hf
    obtain ⟨h8341, hx8340⟩ := getS hx8340
    obtain ⟨cs8342, hr8343, ha8344⟩ := Elems.get eg0 hx8340
    obtain rfl : cs8342 = [.int .u8 x8339] := hr8343
    refine RW.seg hT 10 [.int .u8 x8339, undef] [(9, .int .u64 x8337)] [.int .u64 p0, .int .u64 p0, .int .u64 (IntKind.u64.wrap (0 - p0)), .int .u64 (andI .u64 p0 (IntKind.u64.wrap (0 - p0))), .int .u64 x8337, .int .u64 (shrI .u64 x8337 58), .pointer (some ⟨0, 0 + (shrI .u64 x8337 58).toNat * 1, none⟩), .int .u8 x8339, .int .i64 (IntKind.i64.wrap x8339), .int .i64 (IntKind.i64.wrap x8339)] [.veq (.int .u64 (IntKind.u64.wrap ((andI .u64 p0 (IntKind.u64.wrap (0 - p0))) * 285870213051353865))) (.int .u64 x8337), .nn 58, .idx (shrI .u64 x8337 58) 64, .cell ⟨0, 0 + (shrI .u64 x8337 58).toNat * 1, none⟩ (.int .u8 x8339)] (by kernel_rfl) (⟨int_v (someS hx8338), (show (0 : Int) ≤ 58 by decide), h8341, ha8344 0 _ rfl⟩) ?_
    refine RW.nil ?_
    refine WPK.ret (?_)
    obtain rfl := someS hf
    refine Fin.of (rs := [.tmp 2]) hT [] (.int .i64 (IntKind.i64.wrap x8339)) [] rfl (by kernel_rfl) (trivial) ?_
    exact fun X h => vc rfl (h I _ s kk)
theorem c27_1 {w0 w : World} {M I : Nat → Prop} {F : List It} (p0 : T_extent_Set) (p1 : Int) (b8775 : Nat) (A8776 : Option Addr) (n8777 : Nat) (c8778 : Nat) (cl8779 : List Value) (hn8780 : n8777 = p0.w.length) (rp8781 : RepL (Rp.int .u64) I w cl8779 p0.w) (eg0 : Elems (Rp.int .u8) I w (some ⟨0, 0, none⟩) TAB0) (s : St w0 M I ((.blk b8775 (.cells #[.int .i64 p0.n, .slice A8776 n8777 c8778] 53 (0, 0))) :: (.sl (.slice A8776 n8777 c8778) 61 1 n8777 cl8779) :: F) w) {r : Int} (hf : g27_1 p0 p1 = some r) :
    Ret Tryd.prog 27 [.pointer (some ⟨b8775, 0, none⟩), .int .i64 p1] w fun v wz => ∀ X : Value → World → Prop, (∀ (I' : Nat → Prop) (w' : World), St w0 M I' ((.blk b8775 (.cells #[.int .i64 p0.n, .slice A8776 n8777 c8778] 53 (0, 0))) :: (.sl (.slice A8776 n8777 c8778) 61 1 n8777 cl8779) :: F) w' → Kp I w I' w' → X (.int .i64 r) w') → X v wz := by
  have kk : Kp I w I w := Kp.refl
  unfold g27_1 at hf
  refine Ret.of Tryd.func27 rfl ?_
  refine WPK.seq ?_
  refine WPK.region ?_
  refine RW.seg hT 1 [] [] [.int .i64 0] [] (by kernel_rfl) (trivial) ?_
  refine RW.nil ?_
  refine WPK.seq ?_
  refine WPK.seq ?_
  refine WPK.cut' (fun E ds wz => ∀ X : Kont, (∀ (I8811 : Nat → Prop) (x8809 : Bool) (D8808 : List Value) (w' : World), g27_1_j1 p0 p1 x8809 = some r → St w0 M I8811 ((.blk b8775 (.cells #[.int .i64 p0.n, .slice A8776 n8777 c8778] 53 (0, 0))) :: (.sl (.slice A8776 n8777 c8778) 61 1 n8777 cl8779) :: F) w' → Kp I w I8811 w' → RepL (Rp.int .u64) I8811 w' cl8779 p0.w → Elems (Rp.int .u8) I8811 w' (some ⟨0, 0, none⟩) TAB0 → X [.pointer (some ⟨b8775, 0, none⟩), .int .i64 p1, (D8808.getD 0 undef), (D8808.getD 1 undef), .int .i64 0, undef, undef, undef, (D8808.getD 2 undef), (D8808.getD 3 undef), (D8808.getD 4 undef), (D8808.getD 5 undef), (D8808.getD 6 undef), (D8808.getD 7 undef), (D8808.getD 8 undef), (D8808.getD 9 undef), (D8808.getD 10 undef), .bool x8809, (D8808.getD 11 undef), undef, undef, undef, undef, undef, undef, undef, undef, undef, undef, undef, (D8808.getD 12 undef), undef, undef, undef, undef, undef, undef, undef, undef, undef, undef, undef, undef, undef, undef, undef, undef, undef, (D8808.getD 13 undef), undef, undef] [] w') → X E ds wz) ?_ ?_
  · intro X9250 hX9251
    refine fun _ _ _ hJ => hJ X9250 ?_
    intro I8811 x8809 D8808 w8810 hf s kk rp8781 eg0
    refine hX9251 _ _ _ ?_
    unfold g27_1_j1 at hf
    by_cases h8812 : x8809 = true
    · have hf := iteT h8812 hf
      refine WPK.condT (Eq.trans (b := .bool x8809) (by kernel_rfl) (b_t h8812)) ?_
      refine WPK.seq ?_
      refine WPK.region ?_
      refine RW.seg hT 1 [] [] [.int .i64 (-1)] [] (by kernel_rfl) (trivial) ?_
      refine RW.nil ?_
      refine WPK.ret (?_)
      obtain rfl := someS hf
      refine Fin.of (rs := [.tmp 4]) hT [] (.int .i64 (-1)) [] rfl (by kernel_rfl) (trivial) ?_
      exact fun X h => vc rfl (h I8811 _ s kk)
    · have hf := iteF h8812 hf
      refine WPK.condF (Eq.trans (b := .bool x8809) (by kernel_rfl) (b_f h8812)) ?_
      refine WPK.skip ?_
      refine WPK.seq ?_
      refine WPK.region ?_
      refine RW.seg hT 3 [] [] [.int .i64 p1, .int .i64 (if 0 > p1 then 0 else p1), .int .i64 (if 0 > p1 then 0 else p1)] [] (by kernel_rfl) (trivial) ?_
      refine RW.nil ?_
      refine WPK.seq ?_
      refine WPK.region ?_
      obtain ⟨h8813, hf⟩ := iteS hf
      obtain ⟨x8814, hx8815, hf⟩ := bindS hf
      refine RW.seg hT 5 [undef] [(23, .int .u64 x8814)] [.int .i64 (if 0 > p1 then 0 else p1), .int .i64 (Int.tmod (if 0 > p1 then 0 else p1) 64), .int .u64 (IntKind.u64.wrap (Int.tmod (if 0 > p1 then 0 else p1) 64)), .int .u64 x8814, .int .u64 x8814] [.ne0 64, .both (.nn (IntKind.u64.wrap (Int.tmod (if 0 > p1 then 0 else p1) 64))) (.veq (.int .u64 (shlI .u64 18446744073709551615 (IntKind.u64.wrap (Int.tmod (if 0 > p1 then 0 else p1) 64)))) (.int .u64 x8814))] (by kernel_rfl) (⟨(show (64 : Int) ≠ 0 by decide), ⟨h8813, int_v (someS hx8815)⟩⟩) ?_
      refine RW.nil ?_
      refine WPK.seq ?_
      refine WPK.seq ?_
      refine WPK.region ?_
      refine RW.seg hT 3 [] [] [.int .i64 (if 0 > p1 then 0 else p1), .int .i64 (IntKind.i64.wrap (Int.tdiv (if 0 > p1 then 0 else p1) 64)), .int .i64 (IntKind.i64.wrap (Int.tdiv (if 0 > p1 then 0 else p1) 64))] [.ne0 64] (by kernel_rfl) ((show (64 : Int) ≠ 0 by decide)) ?_
      refine RW.nil ?_
      refine WPK.block ?_
      refine WPK.loop' (J := fun n9180 E ds wz => ∀ X : Kont, (∀ (x9111 : Int) (x9112 : Int) (D9110 : List Value), g27_1_l2 p0 n9180 x9111 x9112 = some r → X [.pointer (some ⟨b8775, 0, none⟩), (D9110.getD 0 undef), (D9110.getD 1 undef), (D9110.getD 2 undef), .int .i64 0, .int .u64 x9111, .int .i64 x9112, (D9110.getD 3 undef), (D9110.getD 4 undef), (D9110.getD 5 undef), (D9110.getD 6 undef), (D9110.getD 7 undef), (D9110.getD 8 undef), (D9110.getD 9 undef), (D9110.getD 10 undef), (D9110.getD 11 undef), (D9110.getD 12 undef), (D9110.getD 13 undef), (D9110.getD 14 undef), (D9110.getD 15 undef), (D9110.getD 16 undef), (D9110.getD 17 undef), (D9110.getD 18 undef), (D9110.getD 19 undef), (D9110.getD 20 undef), (D9110.getD 21 undef), (D9110.getD 22 undef), (D9110.getD 23 undef), (D9110.getD 24 undef), (D9110.getD 25 undef), (D9110.getD 26 undef), (D9110.getD 27 undef), (D9110.getD 28 undef), (D9110.getD 29 undef), (D9110.getD 30 undef), (D9110.getD 31 undef), (D9110.getD 32 undef), (D9110.getD 33 undef), (D9110.getD 34 undef), (D9110.getD 35 undef), (D9110.getD 36 undef), (D9110.getD 37 undef), (D9110.getD 38 undef), (D9110.getD 39 undef), (D9110.getD 40 undef), (D9110.getD 41 undef), undef, undef, (D9110.getD 42 undef), undef, undef] [] w8810) → X E ds wz) FUEL (fun X h => kc (by kernel_rfl) rfl (h x8814 (IntKind.i64.wrap (Int.tdiv (if 0 > p1 then 0 else p1) 64)) [.int .i64 (if 0 > p1 then 0 else p1), (D8808.getD 0 undef), (D8808.getD 1 undef), undef, (D8808.getD 2 undef), (D8808.getD 3 undef), (D8808.getD 4 undef), (D8808.getD 5 undef), (D8808.getD 6 undef), (D8808.getD 7 undef), (D8808.getD 8 undef), (D8808.getD 9 undef), (D8808.getD 10 undef), .bool x8809, .int .i64 p1, .int .i64 (if 0 > p1 then 0 else p1), .int .i64 (if 0 > p1 then 0 else p1), .int .i64 (Int.tmod (if 0 > p1 then 0 else p1) 64), .int .u64 (IntKind.u64.wrap (Int.tmod (if 0 > p1 then 0 else p1) 64)), .int .u64 x8814, .int .i64 (if 0 > p1 then 0 else p1), .int .i64 (IntKind.i64.wrap (Int.tdiv (if 0 > p1 then 0 else p1) 64)), undef, undef, undef, undef, (D8808.getD 12 undef), undef, undef, undef, undef, undef, undef, undef, undef, undef, undef, undef, undef, undef, undef, undef, (D8808.getD 13 undef)] hf)) (fun _ _ _ hJ => hJ (fun _ _ _ => False) (by intro x9111 x9112 D9110 hf; exact noneS hf)) ?_
      intro X9248 hX9249
      refine fun n9180 _ _ _ hJ => hJ (X9248 n9180) ?_
      intro x9111 x9112 D9110 hf
      refine hX9249 _ _ _ _ ?_
      replace hf : g27_1_l2B p0 (g27_1_l2 p0 n9180) x9111 x9112 = some r := hf
      generalize hrec9181 : g27_1_l2 p0 n9180 = rec9179 at hf
      unfold g27_1_l2B at hf
      refine WPK.seq ?_
      refine WPK.seq ?_
      refine WPK.region ?_
      refine RW.seg hT 7 [.slice A8776 n8777 c8778] [(31, .int .i64 (p0.w.length : Int))] [.int .i64 x9112, .pointer (some ⟨b8775, 0, none⟩), .pointer (some ⟨b8775, 0, none⟩), .pointer (some ⟨b8775, 1, none⟩), .slice A8776 n8777 c8778, .int .i64 (p0.w.length : Int), .bool (decide (x9112 < (p0.w.length : Int)))] [.cell ⟨b8775, 1, none⟩ (.slice A8776 n8777 c8778), .veq (.int .i64 (n8777 : Nat)) (.int .i64 (p0.w.length : Int))] (by kernel_rfl) (⟨s.cell (i := 0) (off := 1) rfl rfl, len_v hn8780⟩) ?_
      refine RW.nil ?_
      by_cases h9183 : x9112 < (p0.w.length : Int)
      · have hf := iteT h9183 hf
        refine WPK.condT (Eq.trans (b := .bool (decide (x9112 < (p0.w.length : Int)))) (by kernel_rfl) (bo_t h9183)) ?_
        refine WPK.skip ?_
        refine WPK.seq ?_
        refine WPK.block ?_
        refine WPK.seq ?_
        refine WPK.seq ?_
        refine WPK.region ?_
        obtain ⟨x9232, hx9233, hf⟩ := bindS hf
        obtain ⟨h9234, hx9233⟩ := getS hx9233
        obtain ⟨b9235, rfl⟩ := (St.elem s (i := 1) rfl hn8780 rp8781 hx9233).1
        obtain ⟨-, cs9237, hr9238, ha9239⟩ := St.elem s (i := 1) rfl hn8780 rp8781 hx9233
        replace ha9239 := ha9239 _ rfl
        obtain rfl : cs9237 = [.int .u64 x9232] := hr9238
        refine RW.seg hT 10 [.slice (some ⟨b9235, 0, none⟩) n8777 c8778, .int .u64 x9232] [] [.pointer (some ⟨b8775, 0, none⟩), .pointer (some ⟨b8775, 0, none⟩), .pointer (some ⟨b8775, 1, none⟩), .slice (some ⟨b9235, 0, none⟩) n8777 c8778, .int .i64 x9112, .pointer (some ⟨b9235, 0 + x9112.toNat * 1, none⟩), .int .u64 x9232, .int .u64 x9111, .int .u64 (andI .u64 x9232 x9111), .int .u64 (andI .u64 x9232 x9111)] [.cell ⟨b8775, 1, none⟩ (.slice (some ⟨b9235, 0, none⟩) n8777 c8778), .idx x9112 n8777, .cell ⟨b9235, 0 + x9112.toNat * 1, none⟩ (.int .u64 x9232)] (by kernel_rfl) (⟨s.cell (i := 0) (off := 1) rfl rfl, (by rw [hn8780]; exact h9234), ha9239 0 _ rfl⟩) ?_
        refine RW.nil ?_
        refine WPK.seq ?_
        refine WPK.region ?_
        refine RW.seg hT 2 [] [(45, .bool (decide ((andI .u64 x9232 x9111) ≠ 0)))] [.int .u64 (andI .u64 x9232 x9111), .bool (decide ((andI .u64 x9232 x9111) ≠ 0))] [.veq (.bool ((andI .u64 x9232 x9111) != 0)) (.bool (decide ((andI .u64 x9232 x9111) ≠ 0)))] (by kernel_rfl) (ne_v) ?_
        refine RW.nil ?_
        by_cases h9240 : (andI .u64 x9232 x9111) ≠ 0
        · have hf := iteT h9240 hf
          refine WPK.condT (Eq.trans (b := .bool (decide ((andI .u64 x9232 x9111) ≠ 0))) (by kernel_rfl) (bo_t h9240)) ?_
          refine WPK.seq ?_
          refine WPK.region ?_
          refine RW.seg hT 3 [] [] [.int .i64 x9112, .int .i64 (IntKind.i64.wrap (x9112 * 64)), .int .u64 (andI .u64 x9232 x9111)] [] (by kernel_rfl) (trivial) ?_
          obtain ⟨x9241, hx9242, hf⟩ := bindS hf
          refine RW.op (by kernel_rfl) (OK.call' en44 (by kernel_rfl) (c44 (F := (.blk b8775 (.cells #[.int .i64 p0.n, .slice (some ⟨b9235, 0, none⟩) n8777 c8778] 53 (0, 0))) :: (.sl (.slice (some ⟨b9235, 0, none⟩) n8777 c8778) 61 1 n8777 cl8779) :: F) (andI .u64 x9232 x9111) eg0 s hx9242) ?_)
          intro X9245 hX9246
          refine fun _ _ hJ => hJ X9245 ?_
          intro I9247 w9243 s k9244
          refine hX9246 _ _ ?_
          replace rp8781 := rp8781.st k9244
          replace eg0 := eg0.st k9244
          replace kk := kk.trans k9244
          refine RW.seg hT 2 [] [] [.int .i64 (IntKind.i64.wrap ((IntKind.i64.wrap (x9112 * 64)) + x9241)), .int .i64 (IntKind.i64.wrap ((IntKind.i64.wrap (x9112 * 64)) + x9241))] [] (by kernel_rfl) (trivial) ?_
          refine RW.nil ?_
          refine WPK.ret (blockQ.ret (blockQ.ret (?_)))
          obtain rfl := someS hf
          refine Fin.of (rs := [.tmp 4]) hT [] (.int .i64 (IntKind.i64.wrap ((IntKind.i64.wrap (x9112 * 64)) + x9241))) [] rfl (by kernel_rfl) (trivial) ?_
          exact fun X h => vc rfl (h I9247 _ s kk)
        · have hf := iteF h9240 hf
          refine WPK.condF (Eq.trans (b := .bool (decide ((andI .u64 x9232 x9111) ≠ 0))) (by kernel_rfl) (bo_f h9240)) ?_
          refine WPK.skip ?_
          refine WPK.region ?_
          refine RW.seg hT 1 [] [] [.int .u64 18446744073709551615] [] (by kernel_rfl) (trivial) ?_
          refine RW.nil ?_
          refine WPK.region ?_
          refine RW.seg hT 3 [] [] [.int .i64 x9112, .int .i64 (IntKind.i64.wrap (x9112 + 1)), .int .i64 (IntKind.i64.wrap (x9112 + 1))] [] (by kernel_rfl) (trivial) ?_
          refine RW.nil ?_
          subst hrec9181
          exact ⟨n9180, Nat.le_refl _, fun X h => kc (by kernel_rfl) rfl (h 18446744073709551615 (IntKind.i64.wrap (x9112 + 1)) [(D9110.getD 0 undef), (D9110.getD 1 undef), (D9110.getD 2 undef), .int .u64 (andI .u64 x9232 x9111), (D9110.getD 4 undef), (D9110.getD 5 undef), (D9110.getD 6 undef), (D9110.getD 7 undef), (D9110.getD 8 undef), (D9110.getD 9 undef), (D9110.getD 10 undef), (D9110.getD 11 undef), (D9110.getD 12 undef), (D9110.getD 13 undef), (D9110.getD 14 undef), (D9110.getD 15 undef), (D9110.getD 16 undef), (D9110.getD 17 undef), (D9110.getD 18 undef), (D9110.getD 19 undef), (D9110.getD 20 undef), (D9110.getD 21 undef), .int .i64 x9112, .pointer (some ⟨b8775, 0, none⟩), .pointer (some ⟨b8775, 0, none⟩), .pointer (some ⟨b8775, 1, none⟩), .slice (some ⟨b9235, 0, none⟩) n8777 c8778, .int .i64 (p0.w.length : Int), .bool (decide (x9112 < (p0.w.length : Int))), .int .i64 x9112, .int .i64 (IntKind.i64.wrap (x9112 + 1)), .pointer (some ⟨b8775, 0, none⟩), .pointer (some ⟨b8775, 0, none⟩), .pointer (some ⟨b8775, 1, none⟩), .slice (some ⟨b9235, 0, none⟩) n8777 c8778, .int .i64 x9112, .pointer (some ⟨b9235, 0 + x9112.toNat * 1, none⟩), .int .u64 x9232, .int .u64 x9111, .int .u64 (andI .u64 x9232 x9111), .int .u64 (andI .u64 x9232 x9111), .bool (decide ((andI .u64 x9232 x9111) ≠ 0)), (D9110.getD 42 undef)] hf)⟩
      · have hf := iteF h9183 hf
        refine WPK.condF (Eq.trans (b := .bool (decide (x9112 < (p0.w.length : Int)))) (by kernel_rfl) (bo_f h9183)) ?_
        refine WPK.exit (blockQ.same ?_)
        refine WPK.seq ?_
        refine WPK.region ?_
        refine RW.seg hT 1 [] [] [.int .i64 (-1)] [] (by kernel_rfl) (trivial) ?_
        refine RW.nil ?_
        refine WPK.ret (?_)
        obtain rfl := someS hf
        refine Fin.of (rs := [.tmp 4]) hT [] (.int .i64 (-1)) [] rfl (by kernel_rfl) (trivial) ?_
        exact fun X h => vc rfl (h I8811 _ s kk)
  · refine WPK.region ?_
    refine RW.seg hT 1 [] [] [.pointer (some ⟨b8775, 0, none⟩)] [] (by kernel_rfl) (trivial) ?_
    obtain ⟨x9252, hx9253, hf⟩ := bindS hf
    refine RW.op (by kernel_rfl) (OK.call' en34 (by kernel_rfl) (c34_1 (F := F) p0 b8775 A8776 n8777 c8778 cl8779 hn8780 rp8781 s hx9253) ?_)
    intro X9256 hX9257
    refine fun _ _ hJ => hJ X9256 ?_
    intro I9258 w9254 s k9255
    refine hX9257 _ _ ?_
    replace rp8781 := rp8781.st k9255
    replace eg0 := eg0.st k9255
    replace kk := kk.trans k9255
    by_cases h9259 : x9252 = true
    · have hf := iteT h9259 hf
      refine RW.seg hT 8 [] [(10, .bool true)] [.bool true, undef, undef, undef, undef, undef, undef, .bool true] [.veq (.bool (x9252)) (.bool true)] (by kernel_rfl) (b_t h9259) ?_
      refine RW.nil ?_
      exact fun X h => kc (by kernel_rfl) rfl (h I9258 true [undef, undef, .pointer (some ⟨b8775, 0, none⟩), .bool x9252, .bool true, undef, undef, undef, undef, undef, undef, undef, undef, undef] _ hf s kk rp8781 eg0)
    · have hf := iteF h9259 hf
      refine RW.seg hT 8 [.int .i64 p0.n] [(10, .bool false)] [.bool false, .int .i64 p1, .pointer (some ⟨b8775, 0, none⟩), .pointer (some ⟨b8775, 0, none⟩), .pointer (some ⟨b8775, 0, none⟩), .int .i64 p0.n, .bool (decide (p1 ≥ p0.n)), .bool (decide (p1 ≥ p0.n))] [.veq (.bool (x9252)) (.bool false), .cell ⟨b8775, 0, none⟩ (.int .i64 p0.n)] (by kernel_rfl) (⟨b_f h9259, s.cell (i := 0) (off := 0) rfl rfl⟩) ?_
      refine RW.nil ?_
      exact fun X h => kc (by kernel_rfl) rfl (h I9258 (decide (p1 ≥ p0.n)) [undef, undef, .pointer (some ⟨b8775, 0, none⟩), .bool x9252, .bool false, .int .i64 p1, .pointer (some ⟨b8775, 0, none⟩), .pointer (some ⟨b8775, 0, none⟩), .pointer (some ⟨b8775, 0, none⟩), .int .i64 p0.n, .bool (decide (p1 ≥ p0.n)), undef, undef, undef] _ hf s kk rp8781 eg0)
theorem c17_1 {w0 w : World} {M I : Nat → Prop} {F : List It} (p0 : T_extent_Set) (b11679 : Nat) (A11680 : Option Addr) (n11681 : Nat) (c11682 : Nat) (cl11683 : List Value) (hn11684 : n11681 = p0.w.length) (rp11685 : RepL (Rp.int .u64) I w cl11683 p0.w) (s : St w0 M I ((.blk b11679 (.cells #[.int .i64 p0.n, .slice A11680 n11681 c11682] 53 (0, 0))) :: (.sl (.slice A11680 n11681 c11682) 61 1 n11681 cl11683) :: F) w) {r : Int} (hf : g17_1 p0 = some r) :
    Ret Tryd.prog 17 [.pointer (some ⟨b11679, 0, none⟩)] w fun v wz => ∀ X : Value → World → Prop, (∀ (I' : Nat → Prop) (w' : World), St w0 M I' ((.blk b11679 (.cells #[.int .i64 p0.n, .slice A11680 n11681 c11682] 53 (0, 0))) :: (.sl (.slice A11680 n11681 c11682) 61 1 n11681 cl11683) :: F) w' → Kp I w I' w' → X (.int .i64 r) w') → X v wz := by
  have kk : Kp I w I w := Kp.refl
  unfold g17_1 at hf
  refine Ret.of Tryd.func17 rfl ?_
  refine WPK.seq ?_
  refine WPK.region ?_
  refine RW.seg hT 1 [] [] [.int .i64 0] [] (by kernel_rfl) (trivial) ?_
  refine RW.nil ?_
  refine WPK.seq ?_
  refine WPK.seq ?_
  refine WPK.region ?_
  refine RW.seg hT 1 [] [] [.pointer (some ⟨b11679, 0, none⟩)] [] (by kernel_rfl) (trivial) ?_
  obtain ⟨x11695, hx11696, hf⟩ := bindS hf
  refine RW.op (by kernel_rfl) (OK.call' en34 (by kernel_rfl) (c34_1 (F := F) p0 b11679 A11680 n11681 c11682 cl11683 hn11684 rp11685 s hx11696) ?_)
  intro X11699 hX11700
  refine fun _ _ hJ => hJ X11699 ?_
  intro I11701 w11697 s k11698
  refine hX11700 _ _ ?_
  replace rp11685 := rp11685.st k11698
  replace kk := kk.trans k11698
  refine RW.nil ?_
  by_cases h11702 : x11695 = true
  · have hf := iteT h11702 hf
    refine WPK.condT (Eq.trans (b := .bool x11695) (by kernel_rfl) (b_t h11702)) ?_
    refine WPK.seq ?_
    refine WPK.region ?_
    refine RW.seg hT 1 [] [] [.int .i64 0] [] (by kernel_rfl) (trivial) ?_
    refine RW.nil ?_
    refine WPK.ret (?_)
    obtain rfl := someS hf
    refine Fin.of (rs := [.tmp 2]) hT [] (.int .i64 0) [] rfl (by kernel_rfl) (trivial) ?_
    exact fun X h => vc rfl (h I11701 _ s kk)
  · have hf := iteF h11702 hf
    refine WPK.condF (Eq.trans (b := .bool x11695) (by kernel_rfl) (b_f h11702)) ?_
    refine WPK.skip ?_
    refine WPK.seq ?_
    refine WPK.region ?_
    refine RW.seg hT 5 [.int .i64 p0.n] [] [.pointer (some ⟨b11679, 0, none⟩), .pointer (some ⟨b11679, 0, none⟩), .pointer (some ⟨b11679, 0, none⟩), .int .i64 p0.n, .int .i64 p0.n] [.cell ⟨b11679, 0, none⟩ (.int .i64 p0.n)] (by kernel_rfl) (s.cell (i := 0) (off := 0) rfl rfl) ?_
    refine RW.nil ?_
    refine WPK.ret (?_)
    obtain rfl := someS hf
    refine Fin.of (rs := [.tmp 2]) hT [] (.int .i64 p0.n) [] rfl (by kernel_rfl) (trivial) ?_
    exact fun X h => vc rfl (h I11701 _ s kk)
theorem c35 {w0 w : World} {M I : Nat → Prop} {F : List It} (p0 : Int) (s : St w0 M I (F) w) {r : Int} (hf : g35 p0 = some r) :
    Ret Tryd.prog 35 [.int .u64 p0] w fun v wz => ∀ X : Value → World → Prop, (∀ (I' : Nat → Prop) (w' : World), St w0 M I' (F) w' → Kp I w I' w' → X (.int .i64 r) w') → X v wz := by
  have kk : Kp I w I w := Kp.refl
  unfold g35 at hf
  refine Ret.of Tryd.func35 rfl ?_
  refine WPK.seq ?_
  refine WPK.region ?_
  refine RW.seg hT 1 [] [] [.int .i64 0] [] (by kernel_rfl) (trivial) ?_
  refine RW.nil ?_
  refine WPK.seq ?_
  refine WPK.region ?_
  obtain ⟨x11757, hx11758, hf⟩ := bindS hf
  refine RW.seg hT 7 [] [(8, .int .u64 x11757)] [.int .u64 p0, .int .u64 (shrI .u64 p0 1), .int .u64 (andI .u64 (shrI .u64 p0 1) 6148914691236517205), .int .u64 p0, .int .u64 (andI .u64 p0 6148914691236517205), .int .u64 x11757, .int .u64 x11757] [.nn 1, .veq (.int .u64 (IntKind.u64.wrap ((andI .u64 (shrI .u64 p0 1) 6148914691236517205) + (andI .u64 p0 6148914691236517205)))) (.int .u64 x11757)] (by kernel_rfl) (⟨(show (0 : Int) ≤ 1 by decide), int_v (someS hx11758)⟩) ?_
  refine RW.nil ?_
  refine WPK.seq ?_
  refine WPK.region ?_
  obtain ⟨x11759, hx11760, hf⟩ := bindS hf
  refine RW.seg hT 7 [] [(14, .int .u64 x11759)] [.int .u64 x11757, .int .u64 (shrI .u64 x11757 2), .int .u64 (andI .u64 (shrI .u64 x11757 2) 3689348814741910323), .int .u64 x11757, .int .u64 (andI .u64 x11757 3689348814741910323), .int .u64 x11759, .int .u64 x11759] [.nn 2, .veq (.int .u64 (IntKind.u64.wrap ((andI .u64 (shrI .u64 x11757 2) 3689348814741910323) + (andI .u64 x11757 3689348814741910323)))) (.int .u64 x11759)] (by kernel_rfl) (⟨(show (0 : Int) ≤ 2 by decide), int_v (someS hx11760)⟩) ?_
  refine RW.nil ?_
  refine WPK.seq ?_
  refine WPK.region ?_
  obtain ⟨x11761, hx11762, hf⟩ := bindS hf
  refine RW.seg hT 6 [] [(19, .int .u64 x11761)] [.int .u64 x11759, .int .u64 (shrI .u64 x11759 4), .int .u64 x11759, .int .u64 (IntKind.u64.wrap ((shrI .u64 x11759 4) + x11759)), .int .u64 x11761, .int .u64 x11761] [.nn 4, .veq (.int .u64 (andI .u64 (IntKind.u64.wrap ((shrI .u64 x11759 4) + x11759)) 1085102592571150095)) (.int .u64 x11761)] (by kernel_rfl) (⟨(show (0 : Int) ≤ 4 by decide), int_v (someS hx11762)⟩) ?_
  refine RW.nil ?_
  refine WPK.seq ?_
  refine WPK.region ?_
  refine RW.seg hT 5 [] [] [.int .u64 x11761, .int .u64 x11761, .int .u64 (shrI .u64 x11761 8), .int .u64 (IntKind.u64.wrap (x11761 + (shrI .u64 x11761 8))), .int .u64 (IntKind.u64.wrap (x11761 + (shrI .u64 x11761 8)))] [.nn 8] (by kernel_rfl) ((show (0 : Int) ≤ 8 by decide)) ?_
  refine RW.nil ?_
  refine WPK.seq ?_
  refine WPK.region ?_
  obtain ⟨x11763, hx11764, hf⟩ := bindS hf
  obtain ⟨x11765, hx11766, hf⟩ := bindS hf
  refine RW.seg hT 5 [] [(26, .int .u64 x11763), (27, .int .u64 x11765)] [.int .u64 (IntKind.u64.wrap (x11761 + (shrI .u64 x11761 8))), .int .u64 (IntKind.u64.wrap (x11761 + (shrI .u64 x11761 8))), .int .u64 x11763, .int .u64 x11765, .int .u64 x11765] [.both (.nn 16) (.veq (.int .u64 (shrI .u64 (IntKind.u64.wrap (x11761 + (shrI .u64 x11761 8))) 16)) (.int .u64 x11763)), .veq (.int .u64 (IntKind.u64.wrap ((IntKind.u64.wrap (x11761 + (shrI .u64 x11761 8))) + x11763))) (.int .u64 x11765)] (by kernel_rfl) (⟨⟨(show (0 : Int) ≤ 16 by decide), int_v (someS hx11764)⟩, int_v (someS hx11766)⟩) ?_
  refine RW.nil ?_
  refine WPK.seq ?_
  refine WPK.region ?_
  refine RW.seg hT 5 [] [] [.int .u64 x11765, .int .u64 x11765, .int .u64 (shrI .u64 x11765 32), .int .u64 (IntKind.u64.wrap (x11765 + (shrI .u64 x11765 32))), .int .u64 (IntKind.u64.wrap (x11765 + (shrI .u64 x11765 32)))] [.nn 32] (by kernel_rfl) ((show (0 : Int) ≤ 32 by decide)) ?_
  refine RW.nil ?_
  refine WPK.seq ?_
  refine WPK.region ?_
  obtain ⟨x11767, hx11768, hf⟩ := bindS hf
  refine RW.seg hT 4 [undef] [(33, .int .i64 x11767)] [.int .u64 (IntKind.u64.wrap (x11765 + (shrI .u64 x11765 32))), .int .i64 x11767, .int .i64 (andI .i64 x11767 127), .int .i64 (andI .i64 x11767 127)] [.veq (.int .i64 (IntKind.i64.wrap (IntKind.u64.wrap (x11765 + (shrI .u64 x11765 32))))) (.int .i64 x11767)] (by kernel_rfl) (int_v (someS hx11768)) ?_
  refine RW.nil ?_
  refine WPK.ret (?_)
  obtain rfl := someS hf
  refine Fin.of (rs := [.tmp 2]) hT [] (.int .i64 (andI .i64 x11767 127)) [] rfl (by kernel_rfl) (trivial) ?_
  exact fun X h => vc rfl (h I _ s kk)
theorem c14_1 {w0 w : World} {M I : Nat → Prop} {F : List It} (p0 : T_extent_Set) (b11882 : Nat) (A11883 : Option Addr) (n11884 : Nat) (c11885 : Nat) (cl11886 : List Value) (hn11887 : n11884 = p0.w.length) (rp11888 : RepL (Rp.int .u64) I w cl11886 p0.w) (s : St w0 M I ((.blk b11882 (.cells #[.int .i64 p0.n, .slice A11883 n11884 c11885] 53 (0, 0))) :: (.sl (.slice A11883 n11884 c11885) 61 1 n11884 cl11886) :: F) w) {r : Int} (hf : g14_1 p0 = some r) :
    Ret Tryd.prog 14 [.pointer (some ⟨b11882, 0, none⟩)] w fun v wz => ∀ X : Value → World → Prop, (∀ (I' : Nat → Prop) (w' : World), St w0 M I' ((.blk b11882 (.cells #[.int .i64 p0.n, .slice A11883 n11884 c11885] 53 (0, 0))) :: (.sl (.slice A11883 n11884 c11885) 61 1 n11884 cl11886) :: F) w' → Kp I w I' w' → X (.int .i64 r) w') → X v wz := by
  have kk : Kp I w I w := Kp.refl
  unfold g14_1 at hf
  refine Ret.of Tryd.func14 rfl ?_
  refine WPK.seq ?_
  refine WPK.region ?_
  refine RW.seg hT 1 [] [] [.int .i64 0] [] (by kernel_rfl) (trivial) ?_
  refine RW.nil ?_
  refine WPK.seq ?_
  refine WPK.region ?_
  refine RW.seg hT 1 [] [] [.int .i64 0] [] (by kernel_rfl) (trivial) ?_
  refine RW.nil ?_
  refine WPK.seq ?_
  refine WPK.seq ?_
  refine WPK.region ?_
  refine RW.seg hT 1 [] [] [.pointer (some ⟨b11882, 0, none⟩)] [] (by kernel_rfl) (trivial) ?_
  obtain ⟨x11898, hx11899, hf⟩ := bindS hf
  refine RW.op (by kernel_rfl) (OK.call' en34 (by kernel_rfl) (c34_1 (F := F) p0 b11882 A11883 n11884 c11885 cl11886 hn11887 rp11888 s hx11899) ?_)
  intro X11902 hX11903
  refine fun _ _ hJ => hJ X11902 ?_
  intro I11904 w11900 s k11901
  refine hX11903 _ _ ?_
  replace rp11888 := rp11888.st k11901
  replace kk := kk.trans k11901
  refine RW.nil ?_
  by_cases h11905 : x11898 = true
  · have hf := iteT h11905 hf
    refine WPK.condT (Eq.trans (b := .bool x11898) (by kernel_rfl) (b_t h11905)) ?_
    refine WPK.seq ?_
    refine WPK.region ?_
    refine RW.seg hT 2 [] [] [.int .i64 0, .int .i64 0] [] (by kernel_rfl) (trivial) ?_
    refine RW.nil ?_
    refine WPK.ret (?_)
    obtain rfl := someS hf
    refine Fin.of (rs := [.tmp 2]) hT [] (.int .i64 0) [] rfl (by kernel_rfl) (trivial) ?_
    exact fun X h => vc rfl (h I11904 _ s kk)
  · have hf := iteF h11905 hf
    refine WPK.condF (Eq.trans (b := .bool x11898) (by kernel_rfl) (b_f h11905)) ?_
    refine WPK.skip ?_
    refine WPK.seq ?_
    refine WPK.seq ?_
    refine WPK.region ?_
    refine RW.seg hT 6 [.slice A11883 n11884 c11885] [(12, .int .i64 (p0.w.length : Int))] [.pointer (some ⟨b11882, 0, none⟩), .pointer (some ⟨b11882, 0, none⟩), .pointer (some ⟨b11882, 1, none⟩), .slice A11883 n11884 c11885, .int .i64 (p0.w.length : Int), .int .i64 0] [.cell ⟨b11882, 1, none⟩ (.slice A11883 n11884 c11885), .veq (.int .i64 (n11884 : Nat)) (.int .i64 (p0.w.length : Int))] (by kernel_rfl) (⟨s.cell (i := 0) (off := 1) rfl rfl, len_v hn11887⟩) ?_
    refine RW.nil ?_
    refine WPK.block ?_
    refine WPK.loop' (J := fun n12009 E ds wz => ∀ X : Kont, (∀ (I11990 : Nat → Prop) (x11987 : Int) (x11988 : Int) (D11986 : List Value) (w' : World), g14_1_l1 p0 n12009 x11987 x11988 = some r → St w0 M I11990 ((.blk b11882 (.cells #[.int .i64 p0.n, .slice A11883 n11884 c11885] 53 (0, 0))) :: (.sl (.slice A11883 n11884 c11885) 61 1 n11884 cl11886) :: F) w' → Kp I w I11990 w' → RepL (Rp.int .u64) I11990 w' cl11886 p0.w → X [.pointer (some ⟨b11882, 0, none⟩), (D11986.getD 0 undef), .int .i64 0, .int .i64 x11987, (D11986.getD 1 undef), (D11986.getD 2 undef), (D11986.getD 3 undef), (D11986.getD 4 undef), (D11986.getD 5 undef), (D11986.getD 6 undef), (D11986.getD 7 undef), (D11986.getD 8 undef), .int .i64 (p0.w.length : Int), .int .i64 x11988, (D11986.getD 9 undef), (D11986.getD 10 undef), (D11986.getD 11 undef), (D11986.getD 12 undef), (D11986.getD 13 undef), (D11986.getD 14 undef), (D11986.getD 15 undef), (D11986.getD 16 undef), (D11986.getD 17 undef), (D11986.getD 18 undef), (D11986.getD 19 undef), (D11986.getD 20 undef), (D11986.getD 21 undef), undef] [] w') → X E ds wz) FUEL (fun X h => kc (by kernel_rfl) rfl (h I11904 0 0 [undef, undef, .pointer (some ⟨b11882, 0, none⟩), .bool x11898, undef, .pointer (some ⟨b11882, 0, none⟩), .pointer (some ⟨b11882, 0, none⟩), .pointer (some ⟨b11882, 1, none⟩), .slice A11883 n11884 c11885, undef, undef, undef, undef, undef, undef, undef, undef, undef, undef, undef, undef, undef] _ hf s kk rp11888)) (fun _ _ _ hJ => hJ (fun _ _ _ => False) (by intro I11990 x11987 x11988 D11986 w11989 hf s kk rp11888; exact noneS hf)) ?_
    intro X12028 hX12029
    refine fun n12009 _ _ _ hJ => hJ (X12028 n12009) ?_
    intro I11990 x11987 x11988 D11986 w11989 hf s kk rp11888
    refine hX12029 _ _ _ _ ?_
    replace hf : g14_1_l1B p0 (g14_1_l1 p0 n12009) x11987 x11988 = some r := hf
    generalize hrec12010 : g14_1_l1 p0 n12009 = rec12008 at hf
    unfold g14_1_l1B at hf
    refine WPK.seq ?_
    refine WPK.region ?_
    refine RW.seg hT 1 [] [] [.bool (decide (x11988 < (p0.w.length : Int)))] [] (by kernel_rfl) (trivial) ?_
    refine RW.nil ?_
    refine WPK.seq ?_
    by_cases h12012 : x11988 < (p0.w.length : Int)
    · have hf := iteT h12012 hf
      refine WPK.condT (Eq.trans (b := .bool (decide (x11988 < (p0.w.length : Int)))) (by kernel_rfl) (bo_t h12012)) ?_
      refine WPK.skip ?_
      refine WPK.seq ?_
      refine WPK.block ?_
      refine WPK.seq ?_
      refine WPK.region ?_
      refine RW.seg hT 2 [] [] [.int .i64 x11988, .int .i64 x11988] [] (by kernel_rfl) (trivial) ?_
      refine RW.nil ?_
      refine WPK.region ?_
      obtain ⟨x12013, hx12014, hf⟩ := bindS hf
      obtain ⟨h12015, hx12014⟩ := getS hx12014
      obtain ⟨b12016, rfl⟩ := (St.elem s (i := 1) rfl hn11887 rp11888 hx12014).1
      obtain ⟨-, cs12018, hr12019, ha12020⟩ := St.elem s (i := 1) rfl hn11887 rp11888 hx12014
      replace ha12020 := ha12020 _ rfl
      obtain rfl : cs12018 = [.int .u64 x12013] := hr12019
      refine RW.seg hT 8 [.slice (some ⟨b12016, 0, none⟩) n11884 c11885, .int .u64 x12013] [] [.int .i64 x11987, .pointer (some ⟨b11882, 0, none⟩), .pointer (some ⟨b11882, 0, none⟩), .pointer (some ⟨b11882, 1, none⟩), .slice (some ⟨b12016, 0, none⟩) n11884 c11885, .int .i64 x11988, .pointer (some ⟨b12016, 0 + x11988.toNat * 1, none⟩), .int .u64 x12013] [.cell ⟨b11882, 1, none⟩ (.slice (some ⟨b12016, 0, none⟩) n11884 c11885), .idx x11988 n11884, .cell ⟨b12016, 0 + x11988.toNat * 1, none⟩ (.int .u64 x12013)] (by kernel_rfl) (⟨s.cell (i := 0) (off := 1) rfl rfl, (by rw [hn11887]; exact h12015), ha12020 0 _ rfl⟩) ?_
      obtain ⟨x12021, hx12022, hf⟩ := bindS hf
      refine RW.op (by kernel_rfl) (OK.call' en35 (by kernel_rfl) (c35 (F := (.blk b11882 (.cells #[.int .i64 p0.n, .slice (some ⟨b12016, 0, none⟩) n11884 c11885] 53 (0, 0))) :: (.sl (.slice (some ⟨b12016, 0, none⟩) n11884 c11885) 61 1 n11884 cl11886) :: F) x12013 s hx12022) ?_)
      intro X12025 hX12026
      refine fun _ _ hJ => hJ X12025 ?_
      intro I12027 w12023 s k12024
      refine hX12026 _ _ ?_
      replace rp11888 := rp11888.st k12024
      replace kk := kk.trans k12024
      refine RW.seg hT 2 [] [] [.int .i64 (IntKind.i64.wrap (x11987 + x12021)), .int .i64 (IntKind.i64.wrap (x11987 + x12021))] [] (by kernel_rfl) (trivial) ?_
      refine RW.nil ?_
      refine WPK.region ?_
      refine RW.seg hT 2 [] [] [.int .i64 (IntKind.i64.wrap (x11988 + 1)), .int .i64 (IntKind.i64.wrap (x11988 + 1))] [] (by kernel_rfl) (trivial) ?_
      refine RW.nil ?_
      subst hrec12010
      exact ⟨n12009, Nat.le_refl _, fun X h => kc (by kernel_rfl) rfl (h I12027 (IntKind.i64.wrap (x11987 + x12021)) (IntKind.i64.wrap (x11988 + 1)) [(D11986.getD 0 undef), .int .i64 x11988, (D11986.getD 2 undef), (D11986.getD 3 undef), (D11986.getD 4 undef), (D11986.getD 5 undef), (D11986.getD 6 undef), (D11986.getD 7 undef), (D11986.getD 8 undef), .bool (decide (x11988 < (p0.w.length : Int))), .int .i64 x11988, .int .i64 x11987, .pointer (some ⟨b11882, 0, none⟩), .pointer (some ⟨b11882, 0, none⟩), .pointer (some ⟨b11882, 1, none⟩), .slice (some ⟨b12016, 0, none⟩) n11884 c11885, .int .i64 x11988, .pointer (some ⟨b12016, 0 + x11988.toNat * 1, none⟩), .int .u64 x12013, .int .i64 x12021, .int .i64 (IntKind.i64.wrap (x11987 + x12021)), .int .i64 (IntKind.i64.wrap (x11988 + 1))] _ hf s kk rp11888)⟩
    · have hf := iteF h12012 hf
      refine WPK.condF (Eq.trans (b := .bool (decide (x11988 < (p0.w.length : Int)))) (by kernel_rfl) (bo_f h12012)) ?_
      refine WPK.exit (blockQ.same ?_)
      refine WPK.seq ?_
      refine WPK.region ?_
      refine RW.seg hT 2 [] [] [.int .i64 x11987, .int .i64 x11987] [] (by kernel_rfl) (trivial) ?_
      refine RW.nil ?_
      refine WPK.ret (?_)
      obtain rfl := someS hf
      refine Fin.of (rs := [.tmp 2]) hT [] (.int .i64 x11987) [] rfl (by kernel_rfl) (trivial) ?_
      exact fun X h => vc rfl (h I11990 _ s kk)
theorem c32_1 {w0 w : World} {M I : Nat → Prop} {F : List It} (p0 : T_extent_Set) (p1 : Int) (b12076 : Nat) (A12077 : Option Addr) (n12078 : Nat) (c12079 : Nat) (cl12080 : List Value) (hn12081 : n12078 = p0.w.length) (rp12082 : RepL (Rp.int .u64) I w cl12080 p0.w) (s : St w0 M I ((.blk b12076 (.cells #[.int .i64 p0.n, .slice A12077 n12078 c12079] 53 (0, 0))) :: (.sl (.slice A12077 n12078 c12079) 61 1 n12078 cl12080) :: F) w) {r : Int} (hf : g32_1 p0 p1 = some r) :
    Ret Tryd.prog 32 [.pointer (some ⟨b12076, 0, none⟩), .int .i64 p1] w fun v wz => ∀ X : Value → World → Prop, (∀ (I' : Nat → Prop) (w' : World), St w0 M I' ((.blk b12076 (.cells #[.int .i64 p0.n, .slice A12077 n12078 c12079] 53 (0, 0))) :: (.sl (.slice A12077 n12078 c12079) 61 1 n12078 cl12080) :: F) w' → Kp I w I' w' → X (.int .i64 r) w') → X v wz := by
  have kk : Kp I w I w := Kp.refl
  unfold g32_1 at hf
  refine Ret.of Tryd.func32 rfl ?_
  refine WPK.seq ?_
  refine WPK.region ?_
  refine RW.seg hT 1 [] [] [.int .i64 0] [] (by kernel_rfl) (trivial) ?_
  refine RW.nil ?_
  refine WPK.seq ?_
  refine WPK.block ?_
  refine WPK.seq ?_
  refine WPK.region ?_
  refine RW.seg hT 1 [] [] [.pointer (some ⟨b12076, 0, none⟩)] [] (by kernel_rfl) (trivial) ?_
  obtain ⟨x12095, hx12096, hf⟩ := bindS hf
  refine RW.op (by kernel_rfl) (OK.call' en34 (by kernel_rfl) (c34_1 (F := F) p0 b12076 A12077 n12078 c12079 cl12080 hn12081 rp12082 s hx12096) ?_)
  intro X12099 hX12100
  refine fun _ _ hJ => hJ X12099 ?_
  intro I12101 w12097 s k12098
  refine hX12100 _ _ ?_
  replace rp12082 := rp12082.st k12098
  replace kk := kk.trans k12098
  refine RW.seg hT 1 [] [] [.bool x12095] [] (by kernel_rfl) (trivial) ?_
  refine RW.nil ?_
  by_cases h12102 : x12095 = true
  · have hf := iteT h12102 hf
    refine WPK.condT (Eq.trans (b := .bool x12095) (by kernel_rfl) (b_t h12102)) ?_
    refine WPK.seq ?_
    refine WPK.region ?_
    refine RW.seg hT 1 [] [] [.int .i64 2] [] (by kernel_rfl) (trivial) ?_
    refine RW.nil ?_
    refine WPK.ret (blockQ.ret (?_))
    obtain rfl := someS hf
    refine Fin.of (rs := [.tmp 4]) hT [] (.int .i64 2) [] rfl (by kernel_rfl) (trivial) ?_
    exact fun X h => vc rfl (h I12101 _ s kk)
  · have hf := iteF h12102 hf
    refine WPK.condF (Eq.trans (b := .bool x12095) (by kernel_rfl) (b_f h12102)) ?_
    refine WPK.seq ?_
    refine WPK.region ?_
    refine RW.seg hT 2 [] [] [.int .i64 p1, .bool (decide (p1 < 0))] [] (by kernel_rfl) (trivial) ?_
    by_cases h12104 : p1 < 0
    · have hf := iteT h12104 hf
      refine RW.seg hT 9 [] [(11, .bool true)] [.bool true, undef, undef, undef, undef, undef, undef, .bool true, .bool true] [.veq (.bool (decide (p1 < 0))) (.bool true)] (by kernel_rfl) (bo_t h12104) ?_
      refine RW.nil ?_
      refine WPK.condT (by kernel_rfl) ?_
      refine WPK.seq ?_
      refine WPK.region ?_
      refine RW.seg hT 1 [] [] [.int .i64 1] [] (by kernel_rfl) (trivial) ?_
      refine RW.nil ?_
      refine WPK.ret (blockQ.ret (?_))
      obtain rfl := someS hf
      refine Fin.of (rs := [.tmp 4]) hT [] (.int .i64 1) [] rfl (by kernel_rfl) (trivial) ?_
      exact fun X h => vc rfl (h I12101 _ s kk)
    · have hf := iteF h12104 hf
      refine RW.seg hT 9 [.int .i64 p0.n] [(11, .bool false)] [.bool false, .int .i64 p1, .pointer (some ⟨b12076, 0, none⟩), .pointer (some ⟨b12076, 0, none⟩), .pointer (some ⟨b12076, 0, none⟩), .int .i64 p0.n, .bool (decide (p1 ≥ p0.n)), .bool (decide (p1 ≥ p0.n)), .bool (decide (p1 ≥ p0.n))] [.veq (.bool (decide (p1 < 0))) (.bool false), .cell ⟨b12076, 0, none⟩ (.int .i64 p0.n)] (by kernel_rfl) (⟨bo_f h12104, s.cell (i := 0) (off := 0) rfl rfl⟩) ?_
      refine RW.nil ?_
      by_cases h12105 : p1 ≥ p0.n
      · have hf := iteT h12105 hf
        refine WPK.condT (Eq.trans (b := .bool (decide (p1 ≥ p0.n))) (by kernel_rfl) (bo_t h12105)) ?_
        refine WPK.seq ?_
        refine WPK.region ?_
        refine RW.seg hT 1 [] [] [.int .i64 1] [] (by kernel_rfl) (trivial) ?_
        refine RW.nil ?_
        refine WPK.ret (blockQ.ret (?_))
        obtain rfl := someS hf
        refine Fin.of (rs := [.tmp 4]) hT [] (.int .i64 1) [] rfl (by kernel_rfl) (trivial) ?_
        exact fun X h => vc rfl (h I12101 _ s kk)
      · have hf := iteF h12105 hf
        refine WPK.condF (Eq.trans (b := .bool (decide (p1 ≥ p0.n))) (by kernel_rfl) (bo_f h12105)) ?_
        refine WPK.skip ?_
        refine WPK.seq ?_
        refine WPK.region ?_
        refine RW.seg hT 1 [] [] [.int .i64 0] [] (by kernel_rfl) (trivial) ?_
        refine RW.nil ?_
        refine WPK.ret (?_)
        obtain rfl := someS hf
        refine Fin.of (rs := [.tmp 4]) hT [] (.int .i64 0) [] rfl (by kernel_rfl) (trivial) ?_
        exact fun X h => vc rfl (h I12101 _ s kk)
theorem c33 {w0 w : World} {M I : Nat → Prop} {F : List It} (p0 : Int) (s : St w0 M I (F) w) {r : Int} (hf : g33 p0 = some r) :
    Ret Tryd.prog 33 [.int .i64 p0] w fun v wz => ∀ X : Value → World → Prop, (∀ (I' : Nat → Prop) (w' : World), St w0 M I' (F) w' → Kp I w I' w' → X (.int .u64 r) w') → X v wz := by
  have kk : Kp I w I w := Kp.refl
  unfold g33 at hf
  refine Ret.of Tryd.func33 rfl ?_
  refine WPK.seq ?_
  refine WPK.region ?_
  refine RW.seg hT 1 [] [] [.int .u64 0] [] (by kernel_rfl) (trivial) ?_
  refine RW.nil ?_
  refine WPK.seq ?_
  refine WPK.region ?_
  obtain ⟨h12152, hf⟩ := iteS hf
  refine RW.seg hT 5 [undef] [] [.int .i64 p0, .int .i64 (Int.tmod p0 64), .int .u64 (IntKind.u64.wrap (Int.tmod p0 64)), .int .u64 (shlI .u64 1 (IntKind.u64.wrap (Int.tmod p0 64))), .int .u64 (shlI .u64 1 (IntKind.u64.wrap (Int.tmod p0 64)))] [.ne0 64, .nn (IntKind.u64.wrap (Int.tmod p0 64))] (by kernel_rfl) (⟨(show (64 : Int) ≠ 0 by decide), h12152⟩) ?_
  refine RW.nil ?_
  refine WPK.ret (?_)
  obtain rfl := someS hf
  refine Fin.of (rs := [.tmp 2]) hT [] (.int .u64 (shlI .u64 1 (IntKind.u64.wrap (Int.tmod p0 64)))) [] rfl (by kernel_rfl) (trivial) ?_
  exact fun X h => vc rfl (h I _ s kk)
theorem c13_1 {w0 w : World} {M I : Nat → Prop} {F : List It} (p0 : T_extent_Set) (p1 : Int) (b12188 : Nat) (A12189 : Option Addr) (n12190 : Nat) (c12191 : Nat) (cl12192 : List Value) (hn12193 : n12190 = p0.w.length) (rp12194 : RepL (Rp.int .u64) I w cl12192 p0.w) (s : St w0 M I ((.blk b12188 (.cells #[.int .i64 p0.n, .slice A12189 n12190 c12191] 53 (0, 0))) :: (.sl (.slice A12189 n12190 c12191) 61 1 n12190 cl12192) :: F) w) {r : Bool} (hf : g13_1 p0 p1 = some r) :
    Ret Tryd.prog 13 [.pointer (some ⟨b12188, 0, none⟩), .int .i64 p1] w fun v wz => ∀ X : Value → World → Prop, (∀ (I' : Nat → Prop) (w' : World), St w0 M I' ((.blk b12188 (.cells #[.int .i64 p0.n, .slice A12189 n12190 c12191] 53 (0, 0))) :: (.sl (.slice A12189 n12190 c12191) 61 1 n12190 cl12192) :: F) w' → Kp I w I' w' → X (.bool r) w') → X v wz := by
  have kk : Kp I w I w := Kp.refl
  unfold g13_1 at hf
  refine Ret.of Tryd.func13 rfl ?_
  refine WPK.seq ?_
  refine WPK.region ?_
  refine RW.seg hT 1 [] [] [.bool false] [] (by kernel_rfl) (trivial) ?_
  refine RW.nil ?_
  refine WPK.seq ?_
  have rp12194S12224 := rp12194
  have kS12228 : Kp I w I w := Kp.refl
  refine WPK.draw (fun w' => ∃ I' : Nat → Prop, St w0 M I' ((.blk b12188 (.cells #[.int .i64 p0.n, .slice A12189 n12190 c12191] 53 (0, 0))) :: (.sl (.slice A12189 n12190 c12191) 61 1 n12190 cl12192) :: F) w' ∧ Kp I w I' w') 19 (by kernel_rfl) ?_
  intro w12225 hd12226
  have k12227 := Kp.dr s hd12226
  replace s := s.dr hd12226
  replace rp12194 := rp12194.st k12227
  replace kk := kk.trans k12227
  replace kS12228 := kS12228.trans k12227
  refine RD.seg hT (by kernel_rfl) [0, 1] [] [] [.pointer (some ⟨b12188, 0, none⟩), .int .i64 p1] [] (by kernel_rfl) (fun _ _ => trivial) ⟨_, s.pick [0, 1] 2 rfl, kS12228⟩ ?_
  obtain ⟨x12229, hx12230, hf⟩ := bindS hf
  refine RD.op (i := 2) rfl (by kernel_rfl) (by kernel_rfl) (OK.call' en32 (by kernel_rfl) (c32_1 (F := F) p0 p1 b12188 A12189 n12190 c12191 cl12192 hn12193 rp12194 s hx12230) ?_)
  intro X12233 hX12234
  refine fun _ _ hJ => hJ X12233 ?_
  intro I12235 w12231 s k12232
  refine hX12234 _ _ ?_
  replace rp12194 := rp12194.st k12232
  replace kk := kk.trans k12232
  replace kS12228 := kS12228.trans k12232
  refine ⟨fun _ => ⟨_, s.pick [0, 1] 2 rfl, kS12228⟩, RD.fold ?_⟩
  refine RD.seg hT (by kernel_rfl) [3] [] [(8, .bool (decide (x12229 = 0)))] [.bool (decide (x12229 = 0))] [.veq (.bool (x12229 == 0)) (.bool (decide (x12229 = 0)))] (by kernel_rfl) (by rintro w' ⟨I', s, k⟩; have rp12194 := rp12194S12224.st k; exact eq_v) ⟨_, s.pick [0, 1] 2 rfl, kS12228⟩ ?_
  by_cases h12236 : x12229 = 0
  · have hf := iteT h12236 hf
    obtain ⟨x12237, hx12238, hf⟩ := bindS hf
    obtain ⟨h12239, hx12238⟩ := getS hx12238
    obtain ⟨b12240, rfl⟩ := (St.elem s (i := 1) rfl hn12193 rp12194 hx12238).1
    refine RD.seg hT (by kernel_rfl) [4, 5, 6, 7, 8, 9, 10, 11, 12, 13] [.slice (some ⟨b12240, 0, none⟩) n12190 c12191, .int .u64 x12237] [(9, .bool true)] [.bool true, .pointer (some ⟨b12188, 0, none⟩), .pointer (some ⟨b12188, 0, none⟩), .pointer (some ⟨b12188, 1, none⟩), .slice (some ⟨b12240, 0, none⟩) n12190 c12191, .int .i64 p1, .int .i64 (IntKind.i64.wrap (Int.tdiv p1 64)), .pointer (some ⟨b12240, 0 + (IntKind.i64.wrap (Int.tdiv p1 64)).toNat * 1, none⟩), .int .u64 x12237, .int .i64 p1] [.veq (.bool (decide (x12229 = 0))) (.bool true), .cell ⟨b12188, 1, none⟩ (.slice (some ⟨b12240, 0, none⟩) n12190 c12191), .ne0 64, .idx (IntKind.i64.wrap (Int.tdiv p1 64)) n12190, .cell ⟨b12240, 0 + (IntKind.i64.wrap (Int.tdiv p1 64)).toNat * 1, none⟩ (.int .u64 x12237)] (by kernel_rfl) (by rintro w' ⟨I', s, k⟩; have rp12194 := rp12194S12224.st k; obtain ⟨-, cs12242, hr12243, ha12244⟩ := St.elem s (i := 1) rfl hn12193 rp12194 hx12238; replace ha12244 := ha12244 _ rfl; obtain rfl : cs12242 = [.int .u64 x12237] := hr12243; exact ⟨bo_t h12236, s.cell (i := 0) (off := 1) rfl rfl, (show (64 : Int) ≠ 0 by decide), (by rw [hn12193]; exact h12239), ha12244 0 _ rfl⟩) ⟨_, s.pick [0, 1] 2 rfl, kS12228⟩ ?_
    obtain ⟨x12245, hx12246, hf⟩ := bindS hf
    refine RD.op (i := 14) rfl (by kernel_rfl) (by kernel_rfl) (OK.call' en33 (by kernel_rfl) (c33 (F := (.blk b12188 (.cells #[.int .i64 p0.n, .slice (some ⟨b12240, 0, none⟩) n12190 c12191] 53 (0, 0))) :: (.sl (.slice (some ⟨b12240, 0, none⟩) n12190 c12191) 61 1 n12190 cl12192) :: F) p1 s hx12246) ?_)
    intro X12249 hX12250
    refine fun _ _ hJ => hJ X12249 ?_
    intro I12251 w12247 s k12248
    refine hX12250 _ _ ?_
    replace rp12194 := rp12194.st k12248
    replace kk := kk.trans k12248
    replace kS12228 := kS12228.trans k12248
    refine ⟨fun _ => ⟨_, s.pick [0, 1] 2 rfl, kS12228⟩, RD.fold ?_⟩
    refine RD.seg hT (by kernel_rfl) [15, 16, 17, 18] [] [(21, .bool (decide ((andI .u64 x12237 x12245) ≠ 0)))] [.int .u64 (andI .u64 x12237 x12245), .bool (decide ((andI .u64 x12237 x12245) ≠ 0)), .bool (decide ((andI .u64 x12237 x12245) ≠ 0)), .bool (decide ((andI .u64 x12237 x12245) ≠ 0))] [.veq (.bool ((andI .u64 x12237 x12245) != 0)) (.bool (decide ((andI .u64 x12237 x12245) ≠ 0)))] (by kernel_rfl) (by rintro w' ⟨I', s, k⟩; have rp12194 := rp12194S12224.st k; exact ne_v) ⟨_, s.pick [0, 1] 2 rfl, kS12228⟩ ?_
    refine RD.done (by kernel_rfl) ?_
    refine WPK.ret (?_)
    obtain rfl := someS hf
    refine Fin.of (rs := [.tmp 4]) hT [] (.bool (decide ((andI .u64 x12237 x12245) ≠ 0))) [] rfl (by kernel_rfl) (trivial) ?_
    exact fun X h => vc rfl (h I12251 _ s kk)
  · have hf := iteF h12236 hf
    refine RD.seg hT (by kernel_rfl) [4, 5, 6, 7, 8, 9, 10, 11, 12, 13] [] [(9, .bool false)] [.bool false, undef, undef, undef, undef, undef, undef, undef, undef, undef] [.veq (.bool (decide (x12229 = 0))) (.bool false)] (by kernel_rfl) (by rintro w' ⟨I', s, k⟩; have rp12194 := rp12194S12224.st k; exact bo_f h12236) ⟨_, s.pick [0, 1] 2 rfl, kS12228⟩ ?_
    refine RD.skip (i := 14) rfl (by kernel_rfl) (by kernel_rfl) ?_
    refine ⟨fun _ => ⟨_, s.pick [0, 1] 2 rfl, kS12228⟩, ?_⟩
    refine RD.seg hT (by kernel_rfl) [15, 16, 17, 18] [] [] [undef, undef, .bool false, .bool false] [] (by kernel_rfl) (fun _ _ => trivial) ⟨_, s.pick [0, 1] 2 rfl, kS12228⟩ ?_
    refine RD.done (by kernel_rfl) ?_
    refine WPK.ret (?_)
    obtain rfl := someS hf
    refine Fin.of (rs := [.tmp 4]) hT [] (.bool false) [] rfl (by kernel_rfl) (trivial) ?_
    exact fun X h => vc rfl (h I12235 _ s kk)
theorem c22_1 {w0 w : World} {M I : Nat → Prop} {F : List It} (p0 : T_extent_Set) (p1 : Int) (b12303 : Nat) (A12304 : Option Addr) (n12305 : Nat) (c12306 : Nat) (cl12307 : List Value) (hn12308 : n12305 = p0.w.length) (rp12309 : RepL (Rp.int .u64) I w cl12307 p0.w) (s : St w0 M I ((.blk b12303 (.cells #[.int .i64 p0.n, .slice A12304 n12305 c12306] 53 (0, 0))) :: (.sl (.slice A12304 n12305 c12306) 61 1 n12305 cl12307) :: F) w) {r : (Int × T_extent_Set)} (hf : g22_1 p0 p1 = some r) :
    Ret Tryd.prog 22 [.pointer (some ⟨b12303, 0, none⟩), .int .i64 p1] w fun v wz => ∀ X : Value → World → Prop, (∀ (I' : Nat → Prop) (A12378 : Option Addr) (n12379 : Nat) (c12380 : Nat) (cl12381 : List Value) (w' : World), St w0 M I' ((.blk b12303 (.cells #[.int .i64 r.2.n, .slice A12378 n12379 c12380] 53 (0, 0))) :: (.sl (.slice A12378 n12379 c12380) 61 1 n12379 cl12381) :: F) w' → Kp I w I' w' → n12379 = r.2.w.length → RepL (Rp.int .u64) I' w' cl12381 r.2.w → X (.int .i64 r.1) w') → X v wz := by
  have kk : Kp I w I w := Kp.refl
  unfold g22_1 at hf
  refine Ret.of Tryd.func22 rfl ?_
  refine WPK.seq ?_
  refine WPK.region ?_
  refine RW.seg hT 1 [] [] [.int .i64 0] [] (by kernel_rfl) (trivial) ?_
  refine RW.nil ?_
  refine WPK.seq ?_
  refine WPK.seq ?_
  refine WPK.region ?_
  refine RW.seg hT 2 [] [] [.pointer (some ⟨b12303, 0, none⟩), .int .i64 p1] [] (by kernel_rfl) (trivial) ?_
  obtain ⟨x12319, hx12320, hf⟩ := bindS hf
  refine RW.op (by kernel_rfl) (OK.call' en32 (by kernel_rfl) (c32_1 (F := F) p0 p1 b12303 A12304 n12305 c12306 cl12307 hn12308 rp12309 s hx12320) ?_)
  intro X12323 hX12324
  refine fun _ _ hJ => hJ X12323 ?_
  intro I12325 w12321 s k12322
  refine hX12324 _ _ ?_
  replace rp12309 := rp12309.st k12322
  replace kk := kk.trans k12322
  refine RW.seg hT 1 [] [] [.int .i64 x12319] [] (by kernel_rfl) (trivial) ?_
  refine RW.nil ?_
  refine WPK.seq ?_
  refine WPK.region ?_
  refine RW.seg hT 2 [] [(10, .bool (decide (x12319 ≠ 0)))] [.int .i64 x12319, .bool (decide (x12319 ≠ 0))] [.veq (.bool (x12319 != 0)) (.bool (decide (x12319 ≠ 0)))] (by kernel_rfl) (ne_v) ?_
  refine RW.nil ?_
  by_cases h12326 : x12319 ≠ 0
  · have hf := iteT h12326 hf
    refine WPK.condT (Eq.trans (b := .bool (decide (x12319 ≠ 0))) (by kernel_rfl) (bo_t h12326)) ?_
    refine WPK.seq ?_
    refine WPK.region ?_
    refine RW.seg hT 2 [] [] [.int .i64 x12319, .int .i64 x12319] [] (by kernel_rfl) (trivial) ?_
    refine RW.nil ?_
    refine WPK.ret (?_)
    obtain rfl := someS hf
    refine Fin.of (rs := [.tmp 4]) hT [] (.int .i64 x12319) [] rfl (by kernel_rfl) (trivial) ?_
    exact fun X h => vc rfl (h I12325 A12304 n12305 c12306 cl12307 _ s kk hn12308 rp12309)
  · have hf := iteF h12326 hf
    refine WPK.condF (Eq.trans (b := .bool (decide (x12319 ≠ 0))) (by kernel_rfl) (bo_f h12326)) ?_
    refine WPK.skip ?_
    refine WPK.seq ?_
    refine WPK.seq ?_
    refine WPK.region ?_
    refine RW.seg hT 2 [] [] [.pointer (some ⟨b12303, 0, none⟩), .int .i64 p1] [] (by kernel_rfl) (trivial) ?_
    obtain ⟨x12335, hx12336, hf⟩ := bindS hf
    refine RW.op (by kernel_rfl) (OK.call' en13 (by kernel_rfl) (c13_1 (F := F) p0 p1 b12303 A12304 n12305 c12306 cl12307 hn12308 rp12309 s hx12336) ?_)
    intro X12339 hX12340
    refine fun _ _ hJ => hJ X12339 ?_
    intro I12341 w12337 s k12338
    refine hX12340 _ _ ?_
    replace rp12309 := rp12309.st k12338
    replace kk := kk.trans k12338
    refine RW.nil ?_
    by_cases h12342 : x12335 = true
    · have hf := iteT h12342 hf
      refine WPK.condT (Eq.trans (b := .bool x12335) (by kernel_rfl) (b_t h12342)) ?_
      refine WPK.seq ?_
      refine WPK.region ?_
      refine RW.seg hT 1 [] [] [.int .i64 70] [] (by kernel_rfl) (trivial) ?_
      refine RW.nil ?_
      refine WPK.ret (?_)
      obtain rfl := someS hf
      refine Fin.of (rs := [.tmp 4]) hT [] (.int .i64 70) [] rfl (by kernel_rfl) (trivial) ?_
      exact fun X h => vc rfl (h I12341 A12304 n12305 c12306 cl12307 _ s kk hn12308 rp12309)
    · have hf := iteF h12342 hf
      refine WPK.condF (Eq.trans (b := .bool x12335) (by kernel_rfl) (b_f h12342)) ?_
      refine WPK.skip ?_
      refine WPK.seq ?_
      have rp12309S12343 := rp12309
      have kS12347 : Kp I12341 w12337 I12341 w12337 := Kp.refl
      refine WPK.draw (fun w' => ∃ I' : Nat → Prop, St w0 M I' ((.blk b12303 (.cells #[.int .i64 p0.n, .slice A12304 n12305 c12306] 53 (0, 0))) :: (.sl (.slice A12304 n12305 c12306) 61 1 n12305 cl12307) :: F) w' ∧ Kp I12341 w12337 I' w') 12 (by kernel_rfl) ?_
      intro w12344 hd12345
      have k12346 := Kp.dr s hd12345
      replace s := s.dr hd12345
      replace rp12309 := rp12309.st k12346
      replace kk := kk.trans k12346
      replace kS12347 := kS12347.trans k12346
      obtain ⟨x12348, hx12349, hf⟩ := bindS hf
      obtain ⟨h12350, hx12349⟩ := getS hx12349
      obtain ⟨b12351, rfl⟩ := (St.elem s (i := 1) rfl hn12308 rp12309 hx12349).1
      refine RD.seg hT (by kernel_rfl) [0, 1, 2, 3, 4, 5, 6, 7, 8] [.slice (some ⟨b12351, 0, none⟩) n12305 c12306, .int .u64 x12348] [] [.pointer (some ⟨b12303, 0, none⟩), .pointer (some ⟨b12303, 0, none⟩), .pointer (some ⟨b12303, 1, none⟩), .slice (some ⟨b12351, 0, none⟩) n12305 c12306, .int .i64 p1, .int .i64 (IntKind.i64.wrap (Int.tdiv p1 64)), .pointer (some ⟨b12351, 0 + (IntKind.i64.wrap (Int.tdiv p1 64)).toNat * 1, none⟩), .int .u64 x12348, .int .i64 p1] [.cell ⟨b12303, 1, none⟩ (.slice (some ⟨b12351, 0, none⟩) n12305 c12306), .ne0 64, .idx (IntKind.i64.wrap (Int.tdiv p1 64)) n12305, .cell ⟨b12351, 0 + (IntKind.i64.wrap (Int.tdiv p1 64)).toNat * 1, none⟩ (.int .u64 x12348)] (by kernel_rfl) (by rintro w' ⟨I', s, k⟩; have rp12309 := rp12309S12343.st k; obtain ⟨-, cs12353, hr12354, ha12355⟩ := St.elem s (i := 1) rfl hn12308 rp12309 hx12349; replace ha12355 := ha12355 _ rfl; obtain rfl : cs12353 = [.int .u64 x12348] := hr12354; exact ⟨s.cell (i := 0) (off := 1) rfl rfl, (show (64 : Int) ≠ 0 by decide), (by rw [hn12308]; exact h12350), ha12355 0 _ rfl⟩) ⟨_, s.pick [0, 1] 2 rfl, kS12347⟩ ?_
      obtain ⟨x12356, hx12357, hf⟩ := bindS hf
      refine RD.op (i := 9) rfl (by kernel_rfl) (by kernel_rfl) (OK.call' en33 (by kernel_rfl) (c33 (F := (.blk b12303 (.cells #[.int .i64 p0.n, .slice (some ⟨b12351, 0, none⟩) n12305 c12306] 53 (0, 0))) :: (.sl (.slice (some ⟨b12351, 0, none⟩) n12305 c12306) 61 1 n12305 cl12307) :: F) p1 s hx12357) ?_)
      intro X12360 hX12361
      refine fun _ _ hJ => hJ X12360 ?_
      intro I12362 w12358 s k12359
      refine hX12361 _ _ ?_
      replace rp12309 := rp12309.st k12359
      replace kk := kk.trans k12359
      replace kS12347 := kS12347.trans k12359
      refine ⟨fun _ => ⟨_, s.pick [0, 1] 2 rfl, kS12347⟩, RD.fold ?_⟩
      obtain ⟨x12363, hx12364, hf⟩ := bindS hf
      obtain ⟨h12365, hx12364⟩ := getS hx12364
      refine RD.seg hT (by kernel_rfl) [10, 11] [] [] [.int .u64 (orI .u64 x12348 x12356), .pointer (some ⟨b12351, 0 + (IntKind.i64.wrap (Int.tdiv p1 64)).toNat * 1, none⟩)] [.idx (IntKind.i64.wrap (Int.tdiv p1 64)) n12305] (by kernel_rfl) (by rintro w' ⟨I', s, k⟩; have rp12309 := rp12309S12343.st k; exact (by rw [hn12308]; exact h12365)) ⟨_, s.pick [0, 1] 2 rfl, kS12347⟩ ?_
      obtain ⟨y12370, hy12371, hf⟩ := bindS hf
      obtain ⟨h12372, hq12373⟩ := setS hy12371
      obtain ⟨cl12374, hcl12375⟩ : ∃ q, setL cl12307 (0 + (IntKind.i64.wrap (Int.tdiv p1 64)).toNat * 1) [.int .u64 (orI .u64 x12348 x12356)] = q := ⟨_, rfl⟩
      have rp12376 : RepL (Rp.int .u64) I12362 w12358 cl12374 y12370 := by rw [hq12373, ← hcl12375, Nat.zero_add]; exact RepL.set rp12309 (by omega) (rfl)
      have hn12377 : n12305 = y12370.length := by rw [hq12373, List.length_set]; exact hn12308
      refine RD.op (i := 12) rfl (by kernel_rfl) (by kernel_rfl) (OK.storeSl hT (i := 1) (b := b12351) (off := 0 + (IntKind.i64.wrap (Int.tdiv p1 64)).toNat * 1) (m := 1) (vs := [.int .u64 (orI .u64 x12348 x12356)]) (c := c12306) (e := 61) (size := 1) (n := n12305) (cl := cl12307) (cl' := cl12374) s (by kernel_rfl) rfl rfl (flat_ok rfl) (by have h1 := RepL.length rp12309; simp only [List.length_cons, List.length_nil, h1]; exact row_bd (n := 1) h12372 rfl) hcl12375 ?_)
      rintro w12368 s k12369
      replace rp12376 := rp12376.st k12369
      replace kk := kk.trans k12369
      replace kS12347 := kS12347.trans k12369
      refine ⟨fun h => absurd h (by decide), RD.fold ?_⟩
      refine RD.done (by kernel_rfl) ?_
      refine WPK.seq ?_
      refine WPK.region ?_
      refine RW.seg hT 1 [] [] [.int .i64 0] [] (by kernel_rfl) (trivial) ?_
      refine RW.nil ?_
      refine WPK.ret (?_)
      obtain rfl := someS hf
      refine Fin.of (rs := [.tmp 4]) hT [] (.int .i64 0) [] rfl (by kernel_rfl) (trivial) ?_
      exact fun X h => vc rfl (h I12362 (some ⟨b12351, 0, none⟩) n12305 c12306 cl12374 _ s kk hn12377 rp12376)
theorem c23_1 {w0 w : World} {M I : Nat → Prop} {F : List It} (p0 : T_extent_Set) (p1 : Int) (b12475 : Nat) (A12476 : Option Addr) (n12477 : Nat) (c12478 : Nat) (cl12479 : List Value) (hn12480 : n12477 = p0.w.length) (rp12481 : RepL (Rp.int .u64) I w cl12479 p0.w) (s : St w0 M I ((.blk b12475 (.cells #[.int .i64 p0.n, .slice A12476 n12477 c12478] 53 (0, 0))) :: (.sl (.slice A12476 n12477 c12478) 61 1 n12477 cl12479) :: F) w) {r : (Int × T_extent_Set)} (hf : g23_1 p0 p1 = some r) :
    Ret Tryd.prog 23 [.pointer (some ⟨b12475, 0, none⟩), .int .i64 p1] w fun v wz => ∀ X : Value → World → Prop, (∀ (I' : Nat → Prop) (A12550 : Option Addr) (n12551 : Nat) (c12552 : Nat) (cl12553 : List Value) (w' : World), St w0 M I' ((.blk b12475 (.cells #[.int .i64 r.2.n, .slice A12550 n12551 c12552] 53 (0, 0))) :: (.sl (.slice A12550 n12551 c12552) 61 1 n12551 cl12553) :: F) w' → Kp I w I' w' → n12551 = r.2.w.length → RepL (Rp.int .u64) I' w' cl12553 r.2.w → X (.int .i64 r.1) w') → X v wz := by
  have kk : Kp I w I w := Kp.refl
  unfold g23_1 at hf
  refine Ret.of Tryd.func23 rfl ?_
  refine WPK.seq ?_
  refine WPK.region ?_
  refine RW.seg hT 1 [] [] [.int .i64 0] [] (by kernel_rfl) (trivial) ?_
  refine RW.nil ?_
  refine WPK.seq ?_
  refine WPK.seq ?_
  refine WPK.region ?_
  refine RW.seg hT 2 [] [] [.pointer (some ⟨b12475, 0, none⟩), .int .i64 p1] [] (by kernel_rfl) (trivial) ?_
  obtain ⟨x12491, hx12492, hf⟩ := bindS hf
  refine RW.op (by kernel_rfl) (OK.call' en32 (by kernel_rfl) (c32_1 (F := F) p0 p1 b12475 A12476 n12477 c12478 cl12479 hn12480 rp12481 s hx12492) ?_)
  intro X12495 hX12496
  refine fun _ _ hJ => hJ X12495 ?_
  intro I12497 w12493 s k12494
  refine hX12496 _ _ ?_
  replace rp12481 := rp12481.st k12494
  replace kk := kk.trans k12494
  refine RW.seg hT 1 [] [] [.int .i64 x12491] [] (by kernel_rfl) (trivial) ?_
  refine RW.nil ?_
  refine WPK.seq ?_
  refine WPK.region ?_
  refine RW.seg hT 2 [] [(10, .bool (decide (x12491 ≠ 0)))] [.int .i64 x12491, .bool (decide (x12491 ≠ 0))] [.veq (.bool (x12491 != 0)) (.bool (decide (x12491 ≠ 0)))] (by kernel_rfl) (ne_v) ?_
  refine RW.nil ?_
  by_cases h12498 : x12491 ≠ 0
  · have hf := iteT h12498 hf
    refine WPK.condT (Eq.trans (b := .bool (decide (x12491 ≠ 0))) (by kernel_rfl) (bo_t h12498)) ?_
    refine WPK.seq ?_
    refine WPK.region ?_
    refine RW.seg hT 2 [] [] [.int .i64 x12491, .int .i64 x12491] [] (by kernel_rfl) (trivial) ?_
    refine RW.nil ?_
    refine WPK.ret (?_)
    obtain rfl := someS hf
    refine Fin.of (rs := [.tmp 4]) hT [] (.int .i64 x12491) [] rfl (by kernel_rfl) (trivial) ?_
    exact fun X h => vc rfl (h I12497 A12476 n12477 c12478 cl12479 _ s kk hn12480 rp12481)
  · have hf := iteF h12498 hf
    refine WPK.condF (Eq.trans (b := .bool (decide (x12491 ≠ 0))) (by kernel_rfl) (bo_f h12498)) ?_
    refine WPK.skip ?_
    refine WPK.seq ?_
    refine WPK.seq ?_
    refine WPK.region ?_
    refine RW.seg hT 2 [] [] [.pointer (some ⟨b12475, 0, none⟩), .int .i64 p1] [] (by kernel_rfl) (trivial) ?_
    obtain ⟨x12507, hx12508, hf⟩ := bindS hf
    refine RW.op (by kernel_rfl) (OK.call' en13 (by kernel_rfl) (c13_1 (F := F) p0 p1 b12475 A12476 n12477 c12478 cl12479 hn12480 rp12481 s hx12508) ?_)
    intro X12511 hX12512
    refine fun _ _ hJ => hJ X12511 ?_
    intro I12513 w12509 s k12510
    refine hX12512 _ _ ?_
    replace rp12481 := rp12481.st k12510
    replace kk := kk.trans k12510
    refine RW.seg hT 1 [] [(15, .bool (decide (¬ (x12507 = true))))] [.bool (decide (¬ (x12507 = true)))] [.veq (.bool (!x12507)) (.bool (decide (¬ (x12507 = true))))] (by kernel_rfl) (not_b) ?_
    refine RW.nil ?_
    by_cases h12514 : ¬ (x12507 = true)
    · have hf := iteT h12514 hf
      refine WPK.condT (Eq.trans (b := .bool (decide (¬ (x12507 = true)))) (by kernel_rfl) (bo_t h12514)) ?_
      refine WPK.seq ?_
      refine WPK.region ?_
      refine RW.seg hT 1 [] [] [.int .i64 4] [] (by kernel_rfl) (trivial) ?_
      refine RW.nil ?_
      refine WPK.ret (?_)
      obtain rfl := someS hf
      refine Fin.of (rs := [.tmp 4]) hT [] (.int .i64 4) [] rfl (by kernel_rfl) (trivial) ?_
      exact fun X h => vc rfl (h I12513 A12476 n12477 c12478 cl12479 _ s kk hn12480 rp12481)
    · have hf := iteF h12514 hf
      refine WPK.condF (Eq.trans (b := .bool (decide (¬ (x12507 = true)))) (by kernel_rfl) (bo_f h12514)) ?_
      refine WPK.skip ?_
      refine WPK.seq ?_
      have rp12481S12515 := rp12481
      have kS12519 : Kp I12513 w12509 I12513 w12509 := Kp.refl
      refine WPK.draw (fun w' => ∃ I' : Nat → Prop, St w0 M I' ((.blk b12475 (.cells #[.int .i64 p0.n, .slice A12476 n12477 c12478] 53 (0, 0))) :: (.sl (.slice A12476 n12477 c12478) 61 1 n12477 cl12479) :: F) w' ∧ Kp I12513 w12509 I' w') 12 (by kernel_rfl) ?_
      intro w12516 hd12517
      have k12518 := Kp.dr s hd12517
      replace s := s.dr hd12517
      replace rp12481 := rp12481.st k12518
      replace kk := kk.trans k12518
      replace kS12519 := kS12519.trans k12518
      obtain ⟨x12520, hx12521, hf⟩ := bindS hf
      obtain ⟨h12522, hx12521⟩ := getS hx12521
      obtain ⟨b12523, rfl⟩ := (St.elem s (i := 1) rfl hn12480 rp12481 hx12521).1
      refine RD.seg hT (by kernel_rfl) [0, 1, 2, 3, 4, 5, 6, 7, 8] [.slice (some ⟨b12523, 0, none⟩) n12477 c12478, .int .u64 x12520] [] [.pointer (some ⟨b12475, 0, none⟩), .pointer (some ⟨b12475, 0, none⟩), .pointer (some ⟨b12475, 1, none⟩), .slice (some ⟨b12523, 0, none⟩) n12477 c12478, .int .i64 p1, .int .i64 (IntKind.i64.wrap (Int.tdiv p1 64)), .pointer (some ⟨b12523, 0 + (IntKind.i64.wrap (Int.tdiv p1 64)).toNat * 1, none⟩), .int .u64 x12520, .int .i64 p1] [.cell ⟨b12475, 1, none⟩ (.slice (some ⟨b12523, 0, none⟩) n12477 c12478), .ne0 64, .idx (IntKind.i64.wrap (Int.tdiv p1 64)) n12477, .cell ⟨b12523, 0 + (IntKind.i64.wrap (Int.tdiv p1 64)).toNat * 1, none⟩ (.int .u64 x12520)] (by kernel_rfl) (by rintro w' ⟨I', s, k⟩; have rp12481 := rp12481S12515.st k; obtain ⟨-, cs12525, hr12526, ha12527⟩ := St.elem s (i := 1) rfl hn12480 rp12481 hx12521; replace ha12527 := ha12527 _ rfl; obtain rfl : cs12525 = [.int .u64 x12520] := hr12526; exact ⟨s.cell (i := 0) (off := 1) rfl rfl, (show (64 : Int) ≠ 0 by decide), (by rw [hn12480]; exact h12522), ha12527 0 _ rfl⟩) ⟨_, s.pick [0, 1] 2 rfl, kS12519⟩ ?_
      obtain ⟨x12528, hx12529, hf⟩ := bindS hf
      refine RD.op (i := 9) rfl (by kernel_rfl) (by kernel_rfl) (OK.call' en33 (by kernel_rfl) (c33 (F := (.blk b12475 (.cells #[.int .i64 p0.n, .slice (some ⟨b12523, 0, none⟩) n12477 c12478] 53 (0, 0))) :: (.sl (.slice (some ⟨b12523, 0, none⟩) n12477 c12478) 61 1 n12477 cl12479) :: F) p1 s hx12529) ?_)
      intro X12532 hX12533
      refine fun _ _ hJ => hJ X12532 ?_
      intro I12534 w12530 s k12531
      refine hX12533 _ _ ?_
      replace rp12481 := rp12481.st k12531
      replace kk := kk.trans k12531
      replace kS12519 := kS12519.trans k12531
      refine ⟨fun _ => ⟨_, s.pick [0, 1] 2 rfl, kS12519⟩, RD.fold ?_⟩
      obtain ⟨x12535, hx12536, hf⟩ := bindS hf
      obtain ⟨h12537, hx12536⟩ := getS hx12536
      refine RD.seg hT (by kernel_rfl) [10, 11] [] [] [.int .u64 (andNotI .u64 x12520 x12528), .pointer (some ⟨b12523, 0 + (IntKind.i64.wrap (Int.tdiv p1 64)).toNat * 1, none⟩)] [.idx (IntKind.i64.wrap (Int.tdiv p1 64)) n12477] (by kernel_rfl) (by rintro w' ⟨I', s, k⟩; have rp12481 := rp12481S12515.st k; exact (by rw [hn12480]; exact h12537)) ⟨_, s.pick [0, 1] 2 rfl, kS12519⟩ ?_
      obtain ⟨y12542, hy12543, hf⟩ := bindS hf
      obtain ⟨h12544, hq12545⟩ := setS hy12543
      obtain ⟨cl12546, hcl12547⟩ : ∃ q, setL cl12479 (0 + (IntKind.i64.wrap (Int.tdiv p1 64)).toNat * 1) [.int .u64 (andNotI .u64 x12520 x12528)] = q := ⟨_, rfl⟩
      have rp12548 : RepL (Rp.int .u64) I12534 w12530 cl12546 y12542 := by rw [hq12545, ← hcl12547, Nat.zero_add]; exact RepL.set rp12481 (by omega) (rfl)
      have hn12549 : n12477 = y12542.length := by rw [hq12545, List.length_set]; exact hn12480
      refine RD.op (i := 12) rfl (by kernel_rfl) (by kernel_rfl) (OK.storeSl hT (i := 1) (b := b12523) (off := 0 + (IntKind.i64.wrap (Int.tdiv p1 64)).toNat * 1) (m := 1) (vs := [.int .u64 (andNotI .u64 x12520 x12528)]) (c := c12478) (e := 61) (size := 1) (n := n12477) (cl := cl12479) (cl' := cl12546) s (by kernel_rfl) rfl rfl (flat_ok rfl) (by have h1 := RepL.length rp12481; simp only [List.length_cons, List.length_nil, h1]; exact row_bd (n := 1) h12544 rfl) hcl12547 ?_)
      rintro w12540 s k12541
      replace rp12548 := rp12548.st k12541
      replace kk := kk.trans k12541
      replace kS12519 := kS12519.trans k12541
      refine ⟨fun h => absurd h (by decide), RD.fold ?_⟩
      refine RD.done (by kernel_rfl) ?_
      refine WPK.seq ?_
      refine WPK.region ?_
      refine RW.seg hT 1 [] [] [.int .i64 0] [] (by kernel_rfl) (trivial) ?_
      refine RW.nil ?_
      refine WPK.ret (?_)
      obtain rfl := someS hf
      refine Fin.of (rs := [.tmp 4]) hT [] (.int .i64 0) [] rfl (by kernel_rfl) (trivial) ?_
      exact fun X h => vc rfl (h I12534 (some ⟨b12523, 0, none⟩) n12477 c12478 cl12546 _ s kk hn12549 rp12548)
end Go.Proofs.YtgcielbnmlfjbaaDoor
