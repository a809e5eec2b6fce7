/- PRINTED BY sy.py: each call computes what the plain function of its number tells. -/
import Derived.Test.YtefjbhogpgihaaaW4
namespace Go.Proofs.Ytefjbhogpgihaaa
open Go Go.SX Go.RowKit
set_option maxRecDepth 100000
set_option linter.unusedVariables false
attribute [local irreducible] WPK RW RD Ret SX.Fin SX.Any opK RoundBeg RoundEnd RangeEnd Rounds
theorem c24 {w1 w : World} {M I : Nat → Prop} {F : List It} (p0 : T_api_Node) (A1 : Option Addr) (u1 : Nat) (A2 : Option Addr) (u2 : Nat) (A3 : Option Addr) (u3 : Nat) (hc1 : (p0.Pairs.length ≤ u1 ∧ u1 ≤ 9223372036854775807)) (e1 : Elems rp_T_api_Pair I w A1 p0.Pairs) (hc2 : (p0.Keys.length ≤ u2 ∧ u2 ≤ 9223372036854775807)) (e2 : Elems (Rp.slice (Rp.int .u8)) I w A2 p0.Keys) (hc3 : (p0.Kids.length ≤ u3 ∧ u3 ≤ 9223372036854775807)) (e3 : Elems (Rp.int .i64) I w A3 p0.Kids) (s : St w1 M I (F) w) {r : T_api_Node} (hf : g24 p0 = some r) :
   Ret Try.prog 24 [.agg #[.bool p0.Leaf, .slice A1 p0.Pairs.length u1, .slice A2 p0.Keys.length u2, .slice A3 p0.Kids.length u3]] w fun v wz => ∀ X : Value → World → Prop, (∀ (I' : Nat → Prop) (A4 : Option Addr) (n1 : Nat) (u4 : Nat) (cl1 : List Value) (A5 : Option Addr) (n2 : Nat) (u5 : Nat) (cl2 : List Value) (A6 : Option Addr) (n3 : Nat) (u6 : Nat) (cl3 : List Value) (w' : World), St w1 M I' ((.sl (.slice A4 n1 u4) 48 2 n1 cl1) :: (.sl (.slice A5 n2 u5) 27 1 n2 cl2) :: (.sl (.slice A6 n3 u6) 3 1 n3 cl3) :: F) w' → Kp I w I' w' → n1 = r.Pairs.length → RepL rp_T_api_Pair I' w' cl1 r.Pairs → n2 = r.Keys.length → RepL (Rp.slice (Rp.int .u8)) I' w' cl2 r.Keys → n3 = r.Kids.length → RepL (Rp.int .i64) I' w' cl3 r.Kids → X (.agg #[.bool r.Leaf, .slice A4 n1 u4, .slice A5 n2 u5, .slice A6 n3 u6]) w') → X v wz := by
 have kk : Kp I w I w := Kp.refl
 unfold g24 at hf
 refine Ret.of Try.func24 rfl ?_
 refine WPK.seq ?_
 refine WPK.region ?_
 refine RW.op (by kernel_rfl) (OK.new hT (f := fun b => .pointer (some ⟨b, 0, none⟩)) (cs := [.bool p0.Leaf, .slice A1 p0.Pairs.length u1, .slice A2 p0.Keys.length u2, .slice A3 p0.Kids.length u3]) (e := 26) (c := .tt) s (by kernel_rfl) trivial ?_)
 clear s
 rintro w2 b1 s k1 -
 replace e1 := e1.st k1
 replace e2 := e2.st k1
 replace e3 := e3.st k1
 replace kk := kk.trans k1
 refine RW.op (by kernel_rfl) (OK.new hT (f := fun b => .pointer (some ⟨b, 0, none⟩)) (cs := [.bool false, .slice none 0 0, .slice none 0 0, .slice none 0 0]) (e := 26) (c := .tt) s (by kernel_rfl) trivial ?_)
 clear s
 rintro w3 b2 s k2 -
 replace e1 := e1.st k2
 replace e2 := e2.st k2
 replace e3 := e3.st k2
 replace kk := kk.trans k2
 refine RW.nil ?_
 refine WPK.seq ?_
 refine WPK.cut' (Kn fun D1 ds wz => ∀ X : Kont, (∀ (I1 : Nat → Prop) (x1 : (List Int)) (b3 : Nat) (A7 : Option Addr) (u7 : Nat) (cl4 : List Value) (w' : World), g24_j1 p0 x1 = some r → St w1 M I1 ((.blk b3 (.cells #[.bool p0.Leaf, .slice none 0 0, .slice none 0 0, .slice A7 x1.length u7] 26 (0, 0))) :: (.sl (.slice A7 x1.length u7) 3 1 x1.length cl4) :: (.blk b2 (.cells #[.bool false, .slice none 0 0, .slice none 0 0, .slice none 0 0] 26 (0, 0))) :: (.blk b1 (.cells #[.bool p0.Leaf, .slice A1 p0.Pairs.length u1, .slice A2 p0.Keys.length u2, .slice A3 p0.Kids.length u3] 26 (0, 0))) :: F) w' → Kp I w I1 w' → RepL (Rp.int .i64) I1 w' cl4 x1 → Elems rp_T_api_Pair I1 w' A1 p0.Pairs → Elems (Rp.slice (Rp.int .u8)) I1 w' A2 p0.Keys → Elems (Rp.int .i64) I1 w' A3 p0.Kids → X [(gd D1 0), .pointer (some ⟨b1, 0, none⟩), .pointer (some ⟨b2, 0, none⟩), .pointer (some ⟨b3, 0, none⟩), undef, undef, (gd D1 6), (gd D1 7), (gd D1 8), (gd D1 9), (gd D1 10), (gd D1 11), undef, undef, undef, undef, undef, undef, undef, undef, undef, undef, undef, undef, undef, undef, undef, undef, undef, undef, undef, undef, undef, undef, undef, undef, undef, undef, undef, undef, undef, undef, undef, undef, undef, undef, undef, undef, undef, undef, undef, undef, undef, undef, undef, undef, undef, undef] [] w') → X D1 ds wz) ?_ ?_
 intro X1 hX1
 refine fun D1 _ _ hJ => hJ X1 ?_
 clear s
 intro I1 x1 b3 A7 u7 cl4 w4 hf s kk rp1 e1 e2 e3
 refine hX1 _ _ _ ?_
 unfold g24_j1 at hf
 refine WPK.seq ?_
 refine WPK.seq ?_
 refine WPK.region ?_
 refine RW.seg hT 1 [] [] [.int .i64 0] [] (by kernel_rfl) (trivial) ?_
 refine RW.nil ?_
 refine WPK.block ?_
 replace s := s.pushNil 48 2
 replace s := s.pick [1, 2, 3, 4, 0] 5 rfl
 refine WPK.loop' (J := fun n4 D2 ds wz => ∀ X : Kont, (∀ (I2 : Nat → Prop) (x2 : Int) (x3 : (List T_api_Pair)) (A8 : Option Addr) (u8 : Nat) (cl5 : List Value) (w' : World), g24_l2 p0 x1 n4 x2 x3 = some r → St w1 M I2 ((.blk b3 (.cells #[.bool p0.Leaf, .slice A8 x3.length u8, .slice none 0 0, .slice A7 x1.length u7] 26 (0, 0))) :: (.sl (.slice A7 x1.length u7) 3 1 x1.length cl4) :: (.blk b2 (.cells #[.bool false, .slice none 0 0, .slice none 0 0, .slice none 0 0] 26 (0, 0))) :: (.blk b1 (.cells #[.bool p0.Leaf, .slice A1 p0.Pairs.length u1, .slice A2 p0.Keys.length u2, .slice A3 p0.Kids.length u3] 26 (0, 0))) :: (.sl (.slice A8 x3.length u8) 48 2 x3.length cl5) :: F) w' → Kp I w I2 w' → RepL rp_T_api_Pair I2 w' cl5 x3 → Elems rp_T_api_Pair I2 w' A1 p0.Pairs → Elems (Rp.slice (Rp.int .u8)) I2 w' A2 p0.Keys → Elems (Rp.int .i64) I2 w' A3 p0.Kids → RepL (Rp.int .i64) I2 w' cl4 x1 → X [(gd D2 0), .pointer (some ⟨b1, 0, none⟩), .pointer (some ⟨b2, 0, none⟩), .pointer (some ⟨b3, 0, none⟩), .int .i64 x2, undef, (gd D2 6), (gd D2 7), (gd D2 8), (gd D2 9), (gd D2 10), (gd D2 11), (gd D2 12), (gd D2 13), (gd D2 14), (gd D2 15), (gd D2 16), (gd D2 17), (gd D2 18), (gd D2 19), (gd D2 20), (gd D2 21), (gd D2 22), (gd D2 23), (gd D2 24), (gd D2 25), (gd D2 26), (gd D2 27), (gd D2 28), (gd D2 29), (gd D2 30), (gd D2 31), (gd D2 32), (gd D2 33), (gd D2 34), (gd D2 35), (gd D2 36), (gd D2 37), (gd D2 38), undef, undef, undef, undef, undef, undef, undef, undef, undef, undef, undef, undef, undef, undef, undef, undef, undef, undef, undef] [] w') → X D2 ds wz) FUEL (fun X h => kc (by kernel_rfl) rfl (h I1 0 ([] : List T_api_Pair) none 0 [] _ hf s kk (RepL.nil (r := rp_T_api_Pair)) e1 e2 e3 rp1)) (fun _ _ _ hJ => hJ (fun _ _ _ => False) (by intro I2 x2 x3 A8 u8 cl5 w5 hf s kk rp2 e1 e2 e3 rp1; exact noneS hf)) ?_
 intro X2 hX2
 refine fun n4 D2 _ _ hJ => hJ (X2 n4) ?_
 clear s
 intro I2 x2 x3 A8 u8 cl5 w5 hf s kk rp2 e1 e2 e3 rp1
 refine hX2 _ _ _ _ ?_
 replace hf : g24_l2B p0 x1 (g24_l2 p0 x1 n4) x2 x3 = some r := hf
 generalize hrec1 : g24_l2 p0 x1 n4 = rec1 at hf
 unfold g24_l2B at hf
 refine WPK.seq ?_
 refine WPK.seq ?_
 refine WPK.region ?_
 refine RW.seg hT 5 [.slice A1 p0.Pairs.length u1] [] [.int .i64 x2, .pointer (some ⟨b1, 1, none⟩), .slice A1 p0.Pairs.length u1, .int .i64 (p0.Pairs.length : Int), .bool (decide (x2 < (p0.Pairs.length : Int)))] [.cell ⟨b1, 1, none⟩ (.slice A1 p0.Pairs.length u1)] (by kernel_rfl) (s.cell (i := 3) (off := 1) rfl rfl) ?_
 refine RW.nil ?_
 by_cases h1 : x2 < (p0.Pairs.length : Int)
 have hf := iteT h1 hf
 refine WPK.condT (Eq.trans (b := .bool (decide (x2 < (p0.Pairs.length : Int)))) (by kernel_rfl) (bo_t h1)) ?_
 refine WPK.skip ?_
 refine WPK.seq ?_
 refine WPK.block ?_
 have e1S1 := e1
 have e2S1 := e2
 have e3S1 := e3
 have rp1S1 := rp1
 have rp2S1 := rp2
 have kS1 : Kp I2 w5 I2 w5 := Kp.refl
 refine WPK.drawM (fun w' => ∃ I' : Nat → Prop, St w1 M I' ((.blk b3 (.cells #[.bool p0.Leaf, .slice A8 x3.length u8, .slice none 0 0, .slice A7 x1.length u7] 26 (0, 0))) :: (.sl (.slice A7 x1.length u7) 3 1 x1.length cl4) :: (.blk b2 (.cells #[.bool false, .slice none 0 0, .slice none 0 0, .slice none 0 0] 26 (0, 0))) :: (.blk b1 (.cells #[.bool p0.Leaf, .slice A1 p0.Pairs.length u1, .slice A2 p0.Keys.length u2, .slice A3 p0.Kids.length u3] 26 (0, 0))) :: (.sl (.slice A8 x3.length u8) 48 2 x3.length cl5) :: F) w' ∧ Kp I2 w5 I' w') 18 [0, 1, 0, 4, 0, 28, 60, 124, 252, 0, 512, 0, 3584, 7680, 15872, 32764, 65532, 131068, 262143, 524287, 1048575] (by kernel_rfl) (by kernel_rfl) ?_
 intro ht1 w6 hd1
 have k3 := Kp.dr s hd1
 replace s := s.dr hd1
 replace e1 := e1.st k3
 replace e2 := e2.st k3
 replace e3 := e3.st k3
 replace rp1 := rp1.st k3
 replace rp2 := rp2.st k3
 replace kk := kk.trans k3
 replace kS1 := kS1.trans k3
 obtain ⟨x4, hx1, hf⟩ := bindS hf
 obtain ⟨h2, hx1⟩ := getS hx1
 obtain ⟨b4, o1, rfl⟩ := Elems.opn e1 hx1
 obtain ⟨cs1, hr1, ha1, hb1⟩ := Elems.getI e1S1 hx1
 obtain ⟨cs2, cs3, rfl, hr2, hr3⟩ := hr1
 obtain ⟨A9, u9, rfl, q1, q2, e4⟩ := hr2
 have hc4 := And.intro q1 q2
 obtain ⟨A10, u10, rfl, q3, q4, e5⟩ := hr3
 have hc5 := And.intro q3 q4
 have e4S1 := e4
 replace e4 := e4.st kS1
 have e5S1 := e5
 replace e5 := e5.st kS1
 obtain ⟨x5, hx2, hf⟩ := bindS hf
 obtain ⟨h3, hx2⟩ := getS hx2
 obtain ⟨cs4, hr4, ha2, hb2⟩ := Elems.getI e1S1 hx2
 obtain ⟨cs5, cs6, rfl, hr5, hr6⟩ := hr4
 obtain ⟨A11, u11, rfl, q5, q6, e6⟩ := hr5
 have hc6 := And.intro q5 q6
 obtain ⟨A12, u12, rfl, q7, q8, e7⟩ := hr6
 have hc7 := And.intro q7 q8
 have e6S1 := e6
 replace e6 := e6.st kS1
 have e7S1 := e7
 replace e7 := e7.st kS1
 refine RD.segM hT ht1 (by kernel_rfl) [0, 1, 2, 3, 4, 5, 6, 7, 9, 10, 11, 12, 13, 14] [.slice A8 x3.length u8, .slice (some ⟨b4, o1, none⟩) p0.Pairs.length u1, .slice A9 x4.Key.length u9, .slice (some ⟨b4, o1, none⟩) p0.Pairs.length u1, .slice A12 x5.Val.length u12] [] [.pointer (some ⟨b3, 1, none⟩), .slice A8 x3.length u8, .pointer (some ⟨b1, 1, none⟩), .slice (some ⟨b4, o1, none⟩) p0.Pairs.length u1, .int .i64 x2, .pointer (some ⟨b4, o1 + x2.toNat * 2, none⟩), .pointer (some ⟨b4, o1 + x2.toNat * 2, none⟩), .slice A9 x4.Key.length u9, .pointer (some ⟨b1, 1, none⟩), .slice (some ⟨b4, o1, none⟩) p0.Pairs.length u1, .int .i64 x2, .pointer (some ⟨b4, o1 + x2.toNat * 2, none⟩), .pointer (some ⟨b4, o1 + x2.toNat * 2 + 1, none⟩), .slice A12 x5.Val.length u12] [.cell ⟨b3, 1, none⟩ (.slice A8 x3.length u8), .cell ⟨b1, 1, none⟩ (.slice (some ⟨b4, o1, none⟩) p0.Pairs.length u1), .idx x2 p0.Pairs.length, .cell ⟨b4, o1 + x2.toNat * 2, none⟩ (.slice A9 x4.Key.length u9), .cell ⟨b1, 1, none⟩ (.slice (some ⟨b4, o1, none⟩) p0.Pairs.length u1), .idx x2 p0.Pairs.length, .cell ⟨b4, o1 + x2.toNat * 2 + 1, none⟩ (.slice A12 x5.Val.length u12)] (by kernel_rfl) (by rintro w' ⟨I', s, k⟩; have e1 := e1S1.st k; have e2 := e2S1.st k; have e3 := e3S1.st k; have rp1 := rp1S1.st k; have rp2 := rp2S1.st k; have e4 := e4S1.st k; have e5 := e5S1.st k; have e6 := e6S1.st k; have e7 := e7S1.st k; have ha1 := ha1.st k hb1; have ha2 := ha2.st k hb2; exact ⟨s.cell (i := 0) (off := 1) rfl rfl, s.cell (i := 3) (off := 1) rfl rfl, h2, ha1 0 _ rfl, s.cell (i := 3) (off := 1) rfl rfl, h3, ha2 1 _ rfl⟩) ⟨_, s.pick [0, 1, 2, 3, 4] 5 rfl, kS1⟩ ?_
 obtain ⟨x6, hx3, hf⟩ := bindS hf
 refine RD.op (i := 8) rfl (by kernel_rfl) (by kernel_rfl) (OK.call' en58 (by kernel_rfl) (c58 (F := (.blk b3 (.cells #[.bool p0.Leaf, .slice A8 x3.length u8, .slice none 0 0, .slice A7 x1.length u7] 26 (0, 0))) :: (.sl (.slice A7 x1.length u7) 3 1 x1.length cl4) :: (.blk b2 (.cells #[.bool false, .slice none 0 0, .slice none 0 0, .slice none 0 0] 26 (0, 0))) :: (.blk b1 (.cells #[.bool p0.Leaf, .slice (some ⟨b4, o1, none⟩) p0.Pairs.length u1, .slice A2 p0.Keys.length u2, .slice A3 p0.Kids.length u3] 26 (0, 0))) :: (.sl (.slice A8 x3.length u8) 48 2 x3.length cl5) :: F) x4.Key A9 u9 hc4 e4 s hx3) ?_)
 intro X3 hX3
 refine fun _ _ hJ => hJ X3 ?_
 clear s
 intro I3 A13 n5 u13 cl6 w7 s k4 hn1 rp3
 refine hX3 _ _ ?_
 replace e1 := e1.st k4
 replace e4 := e4.st k4
 replace e7 := e7.st k4
 replace e2 := e2.st k4
 replace e3 := e3.st k4
 replace rp1 := rp1.st k4
 replace rp2 := rp2.st k4
 replace kk := kk.trans k4
 replace kS1 := kS1.trans k4
 refine ⟨fun _ => ⟨_, s.pick [1, 2, 3, 4, 5] 6 rfl, kS1⟩, RD.fold ?_⟩
 obtain ⟨x7, hx4, hf⟩ := bindS hf
 refine RD.op (i := 15) rfl (by kernel_rfl) (by kernel_rfl) (OK.call' en58 (by kernel_rfl) (c58 (F := (.sl (.slice A13 n5 u13) 5 1 n5 cl6) :: (.blk b3 (.cells #[.bool p0.Leaf, .slice A8 x3.length u8, .slice none 0 0, .slice A7 x1.length u7] 26 (0, 0))) :: (.sl (.slice A7 x1.length u7) 3 1 x1.length cl4) :: (.blk b2 (.cells #[.bool false, .slice none 0 0, .slice none 0 0, .slice none 0 0] 26 (0, 0))) :: (.blk b1 (.cells #[.bool p0.Leaf, .slice (some ⟨b4, o1, none⟩) p0.Pairs.length u1, .slice A2 p0.Keys.length u2, .slice A3 p0.Kids.length u3] 26 (0, 0))) :: (.sl (.slice A8 x3.length u8) 48 2 x3.length cl5) :: F) x5.Val A12 u12 hc7 e7 s hx4) ?_)
 intro X4 hX4
 refine fun _ _ hJ => hJ X4 ?_
 clear s
 intro I4 A14 n6 u14 cl7 w8 s k5 hn2 rp4
 refine hX4 _ _ ?_
 replace e1 := e1.st k5
 replace e4 := e4.st k5
 replace e7 := e7.st k5
 replace e2 := e2.st k5
 replace e3 := e3.st k5
 replace rp3 := rp3.st k5
 replace rp1 := rp1.st k5
 replace rp2 := rp2.st k5
 replace kk := kk.trans k5
 replace kS1 := kS1.trans k5
 refine ⟨fun _ => ⟨_, s.pick [2, 3, 4, 5, 6] 7 rfl, kS1⟩, RD.fold ?_⟩
 refine RD.segM hT ht1 (by kernel_rfl) [16] [] [] [.agg #[.slice A13 n5 u13, .slice A14 n6 u14]] [] (by kernel_rfl) (fun _ _ => trivial) ⟨_, s.pick [2, 3, 4, 5, 6] 7 rfl, kS1⟩ ?_
 rw [hn1] at s
 try rw [hn1]
 obtain ⟨I5, s', k6, hc8, e8⟩ := St.give s (i := 1) rfl rfl rp3
 replace s := s'; clear s'
 replace e1 := e1.st k6
 replace e4 := e4.st k6
 replace e7 := e7.st k6
 replace e2 := e2.st k6
 replace e3 := e3.st k6
 replace rp4 := rp4.st k6
 replace rp1 := rp1.st k6
 replace rp2 := rp2.st k6
 replace kk := kk.trans k6
 replace kS1 := kS1.trans k6
 rw [hn2] at s
 try rw [hn2]
 obtain ⟨I6, s', k7, hc9, e9⟩ := St.give s (i := 0) rfl rfl rp4
 replace s := s'; clear s'
 replace e1 := e1.st k7
 replace e4 := e4.st k7
 replace e8 := e8.st k7
 replace e7 := e7.st k7
 replace e2 := e2.st k7
 replace e3 := e3.st k7
 replace rp1 := rp1.st k7
 replace rp2 := rp2.st k7
 replace kk := kk.trans k7
 replace kS1 := kS1.trans k7
 refine RD.op (i := 17) rfl (by kernel_rfl) (by kernel_rfl) (OK.new hT (f := fun b => .slice (some ⟨b, 0, none⟩) 1 1) (cs := [.slice A13 x6.length u13, .slice A14 x7.length u14]) (e := 48) (c := .tt) s (by kernel_rfl) trivial ?_)
 clear s
 rintro w9 b5 s k8 -
 replace e1 := e1.st k8
 replace e4 := e4.st k8
 replace e8 := e8.st k8
 replace e7 := e7.st k8
 replace e9 := e9.st k8
 replace e2 := e2.st k8
 replace e3 := e3.st k8
 replace rp1 := rp1.st k8
 replace rp2 := rp2.st k8
 replace kk := kk.trans k8
 replace kS1 := kS1.trans k8
 have rp5 : RepL rp_T_api_Pair I6 w9 [.slice A13 x6.length u13, .slice A14 x7.length u14] ([(T_api_Pair.mk x6 x7)] : List T_api_Pair) := RepL.cons (c := [.slice A13 x6.length u13, .slice A14 x7.length u14]) (d := []) (⟨[.slice A13 x6.length u13], [.slice A14 x7.length u14], rfl, ⟨_, _, rfl, hc8.1, hc8.2, e8⟩, ⟨_, _, rfl, hc9.1, hc9.2, e9⟩⟩) (RepL.nil)
 replace s : St w1 M I6 ((.sl (.slice (some ⟨b5, 0, none⟩) 1 1) 48 2 1 [.slice A13 x6.length u13, .slice A14 x7.length u14]) :: (.blk b3 (.cells #[.bool p0.Leaf, .slice A8 x3.length u8, .slice none 0 0, .slice A7 x1.length u7] 26 (0, 0))) :: (.sl (.slice A7 x1.length u7) 3 1 x1.length cl4) :: (.blk b2 (.cells #[.bool false, .slice none 0 0, .slice none 0 0, .slice none 0 0] 26 (0, 0))) :: (.blk b1 (.cells #[.bool p0.Leaf, .slice (some ⟨b4, o1, none⟩) p0.Pairs.length u1, .slice A2 p0.Keys.length u2, .slice A3 p0.Kids.length u3] 26 (0, 0))) :: (.sl (.slice A8 x3.length u8) 48 2 x3.length cl5) :: F) w9 := s.blkSl (i := 0) (n := 1) (c := 1) (size := 2) rfl rfl (Nat.le_refl _) (by decide)
 refine ⟨fun _ => ⟨_, s.pick [1, 2, 3, 4, 5] 6 rfl, kS1⟩, RD.fold ?_⟩
 have hs1 := St.src s (i := 0) rfl rfl rp5
 have rq1 := rp5
 obtain ⟨x8, hx5, hf⟩ := bindS hf
 refine RD.op (i := 18) rfl (by kernel_rfl) (by kernel_rfl) (OK.app hT (r := rp_T_api_Pair) (i := 5) (t := 22) (e := 48) (size := 2) (bytes := 48) (c := u8) (n := x3.length) (m := 1) s (by kernel_rfl) rfl rfl rfl rfl rfl (by decide) rfl rfl rfl rfl rp2 hs1 rq1 (flat_iso (flat_pair flat_slice flat_slice)) rfl hx5 ?_)
 clear s
 rintro A15 u15 cl8 w10 s k9 rp6
 replace e1 := e1.st k9
 replace e4 := e4.st k9
 replace e8 := e8.st k9
 replace e7 := e7.st k9
 replace e9 := e9.st k9
 replace e2 := e2.st k9
 replace e3 := e3.st k9
 replace rp5 := rp5.st k9
 replace rp1 := rp1.st k9
 replace rp2 := rp2.st k9
 replace kk := kk.trans k9
 replace kS1 := kS1.trans k9
 refine ⟨fun h => absurd h (by decide), RD.fold ?_⟩
 refine RD.op (i := 19) rfl (by kernel_rfl) (by kernel_rfl) (OK.pure hT (ld := undef) (v := .pointer (some ⟨b3, 1, none⟩)) (c := .tt) (by kernel_rfl) (trivial) ?_)
 refine ⟨fun h => absurd h (by decide), RD.fold ?_⟩
 refine RD.op (i := 20) rfl (by kernel_rfl) (by kernel_rfl) (OK.store hT (i := 1) (b := b3) (off := 1) (n := 1) (vs := [.slice A15 x8.length u15]) (cs := [.bool p0.Leaf, (.slice A8 x3.length u8), .slice none 0 0, .slice A7 x1.length u7]) (e := 26) s (by kernel_rfl) rfl rfl (flat_ok rfl) (Nat.le_of_ble_eq_true rfl) ?_)
 clear s
 rintro w11 s k10 -
 replace e1 := e1.st k10
 replace e4 := e4.st k10
 replace e8 := e8.st k10
 replace e7 := e7.st k10
 replace e9 := e9.st k10
 replace e2 := e2.st k10
 replace e3 := e3.st k10
 replace rp5 := rp5.st k10
 replace rp1 := rp1.st k10
 replace rp6 := rp6.st k10
 replace kk := kk.trans k10
 replace kS1 := kS1.trans k10
 refine ⟨fun h => absurd h (by decide), RD.fold ?_⟩
 refine RD.done (by kernel_rfl) ?_
 refine WPK.region ?_
 refine RW.seg hT 3 [] [] [.int .i64 x2, .int .i64 (IntKind.i64.wrap (x2 + 1)), .int .i64 (IntKind.i64.wrap (x2 + 1))] [] (by kernel_rfl) (trivial) ?_
 refine RW.nil ?_
 subst hrec1
 replace s := s.pick [1, 2, 3, 4, 5] 6 rfl
 exact ⟨n4, Nat.le_refl _, fun X h => kc (by kernel_rfl) rfl (h I6 (IntKind.i64.wrap (x2 + 1)) x8 A15 u15 cl8 _ hf s kk rp6 e1 e2 e3 rp1)⟩
 have hf := iteF h1 hf
 refine WPK.condF (Eq.trans (b := .bool (decide (x2 < (p0.Pairs.length : Int)))) (by kernel_rfl) (bo_f h1)) ?_
 refine WPK.exit (blockQ.same ?_)
 refine WPK.seq ?_
 refine WPK.seq ?_
 refine WPK.region ?_
 refine RW.seg hT 1 [] [] [.int .i64 0] [] (by kernel_rfl) (trivial) ?_
 refine RW.nil ?_
 refine WPK.block ?_
 replace s := s.pushNil 27 1
 replace s := s.pick [1, 2, 3, 4, 5, 0] 6 rfl
 refine WPK.loop' (J := fun n7 D3 ds wz => ∀ X : Kont, (∀ (I7 : Nat → Prop) (x9 : Int) (x10 : (List (List Int))) (A16 : Option Addr) (u16 : Nat) (cl9 : List Value) (w' : World), g24_l3 p0 x1 x3 n7 x9 x10 = some r → St w1 M I7 ((.blk b3 (.cells #[.bool p0.Leaf, .slice A8 x3.length u8, .slice A16 x10.length u16, .slice A7 x1.length u7] 26 (0, 0))) :: (.sl (.slice A7 x1.length u7) 3 1 x1.length cl4) :: (.blk b2 (.cells #[.bool false, .slice none 0 0, .slice none 0 0, .slice none 0 0] 26 (0, 0))) :: (.blk b1 (.cells #[.bool p0.Leaf, .slice A1 p0.Pairs.length u1, .slice A2 p0.Keys.length u2, .slice A3 p0.Kids.length u3] 26 (0, 0))) :: (.sl (.slice A8 x3.length u8) 48 2 x3.length cl5) :: (.sl (.slice A16 x10.length u16) 27 1 x10.length cl9) :: F) w' → Kp I w I7 w' → RepL (Rp.slice (Rp.int .u8)) I7 w' cl9 x10 → Elems rp_T_api_Pair I7 w' A1 p0.Pairs → Elems (Rp.slice (Rp.int .u8)) I7 w' A2 p0.Keys → Elems (Rp.int .i64) I7 w' A3 p0.Kids → RepL (Rp.int .i64) I7 w' cl4 x1 → RepL rp_T_api_Pair I7 w' cl5 x3 → X [(gd D3 0), .pointer (some ⟨b1, 0, none⟩), .pointer (some ⟨b2, 0, none⟩), .pointer (some ⟨b3, 0, none⟩), (gd D3 4), .int .i64 x9, (gd D3 6), (gd D3 7), (gd D3 8), (gd D3 9), (gd D3 10), (gd D3 11), (gd D3 12), (gd D3 13), (gd D3 14), (gd D3 15), (gd D3 16), (gd D3 17), (gd D3 18), (gd D3 19), (gd D3 20), (gd D3 21), (gd D3 22), (gd D3 23), (gd D3 24), (gd D3 25), (gd D3 26), (gd D3 27), (gd D3 28), (gd D3 29), (gd D3 30), (gd D3 31), (gd D3 32), (gd D3 33), (gd D3 34), (gd D3 35), (gd D3 36), (gd D3 37), (gd D3 38), (gd D3 39), (gd D3 40), (gd D3 41), (gd D3 42), (gd D3 43), (gd D3 44), (gd D3 45), (gd D3 46), (gd D3 47), (gd D3 48), (gd D3 49), (gd D3 50), (gd D3 51), (gd D3 52), (gd D3 53), (gd D3 54), (gd D3 55), (gd D3 56), undef] [] w') → X D3 ds wz) FUEL (fun X h => kc (by kernel_rfl) rfl (h I2 0 ([] : List (List Int)) none 0 [] _ hf s kk (RepL.nil (r := (Rp.slice (Rp.int .u8)))) e1 e2 e3 rp1 rp2)) (fun _ _ _ hJ => hJ (fun _ _ _ => False) (by intro I7 x9 x10 A16 u16 cl9 w12 hf s kk rp7 e1 e2 e3 rp1 rp2; exact noneS hf)) ?_
 intro X5 hX5
 refine fun n7 D3 _ _ hJ => hJ (X5 n7) ?_
 clear s
 intro I7 x9 x10 A16 u16 cl9 w12 hf s kk rp7 e1 e2 e3 rp1 rp2
 refine hX5 _ _ _ _ ?_
 replace hf : g24_l3B p0 x1 x3 (g24_l3 p0 x1 x3 n7) x9 x10 = some r := hf
 generalize hrec2 : g24_l3 p0 x1 x3 n7 = rec2 at hf
 unfold g24_l3B at hf
 refine WPK.seq ?_
 refine WPK.seq ?_
 refine WPK.region ?_
 refine RW.seg hT 5 [.slice A2 p0.Keys.length u2] [] [.int .i64 x9, .pointer (some ⟨b1, 2, none⟩), .slice A2 p0.Keys.length u2, .int .i64 (p0.Keys.length : Int), .bool (decide (x9 < (p0.Keys.length : Int)))] [.cell ⟨b1, 2, none⟩ (.slice A2 p0.Keys.length u2)] (by kernel_rfl) (s.cell (i := 3) (off := 2) rfl rfl) ?_
 refine RW.nil ?_
 by_cases h4 : x9 < (p0.Keys.length : Int)
 have hf := iteT h4 hf
 refine WPK.condT (Eq.trans (b := .bool (decide (x9 < (p0.Keys.length : Int)))) (by kernel_rfl) (bo_t h4)) ?_
 refine WPK.skip ?_
 refine WPK.seq ?_
 refine WPK.block ?_
 have e2S2 := e2
 have e1S2 := e1
 have e3S2 := e3
 have rp1S2 := rp1
 have rp2S2 := rp2
 have rp7S2 := rp7
 have kS2 : Kp I7 w12 I7 w12 := Kp.refl
 refine WPK.drawM (fun w' => ∃ I' : Nat → Prop, St w1 M I' ((.blk b3 (.cells #[.bool p0.Leaf, .slice A8 x3.length u8, .slice A16 x10.length u16, .slice A7 x1.length u7] 26 (0, 0))) :: (.sl (.slice A7 x1.length u7) 3 1 x1.length cl4) :: (.blk b2 (.cells #[.bool false, .slice none 0 0, .slice none 0 0, .slice none 0 0] 26 (0, 0))) :: (.blk b1 (.cells #[.bool p0.Leaf, .slice A1 p0.Pairs.length u1, .slice A2 p0.Keys.length u2, .slice A3 p0.Kids.length u3] 26 (0, 0))) :: (.sl (.slice A8 x3.length u8) 48 2 x3.length cl5) :: (.sl (.slice A16 x10.length u16) 27 1 x10.length cl9) :: F) w' ∧ Kp I7 w12 I' w') 9 [0, 1, 0, 4, 0, 28, 60, 124, 252, 511, 1023, 2047] (by kernel_rfl) (by kernel_rfl) ?_
 intro ht2 w13 hd2
 have k11 := Kp.dr s hd2
 replace s := s.dr hd2
 replace e2 := e2.st k11
 replace e1 := e1.st k11
 replace e3 := e3.st k11
 replace rp1 := rp1.st k11
 replace rp2 := rp2.st k11
 replace rp7 := rp7.st k11
 replace kk := kk.trans k11
 replace kS2 := kS2.trans k11
 obtain ⟨x11, hx6, hf⟩ := bindS hf
 obtain ⟨h5, hx6⟩ := getS hx6
 obtain ⟨b6, o2, rfl⟩ := Elems.opn e2 hx6
 obtain ⟨cs7, hr7, ha3, hb3⟩ := Elems.getI e2S2 hx6
 obtain ⟨A17, u17, rfl, q9, q10, e10⟩ := hr7
 have hc10 := And.intro q9 q10
 have e10S2 := e10
 replace e10 := e10.st kS2
 refine RD.segM hT ht2 (by kernel_rfl) [0, 1, 2, 3, 4, 5, 6] [.slice A16 x10.length u16, .slice (some ⟨b6, o2, none⟩) p0.Keys.length u2, .slice A17 x11.length u17] [] [.pointer (some ⟨b3, 2, none⟩), .slice A16 x10.length u16, .pointer (some ⟨b1, 2, none⟩), .slice (some ⟨b6, o2, none⟩) p0.Keys.length u2, .int .i64 x9, .pointer (some ⟨b6, o2 + x9.toNat * 1, none⟩), .slice A17 x11.length u17] [.cell ⟨b3, 2, none⟩ (.slice A16 x10.length u16), .cell ⟨b1, 2, none⟩ (.slice (some ⟨b6, o2, none⟩) p0.Keys.length u2), .idx x9 p0.Keys.length, .cell ⟨b6, o2 + x9.toNat * 1, none⟩ (.slice A17 x11.length u17)] (by kernel_rfl) (by rintro w' ⟨I', s, k⟩; have e2 := e2S2.st k; have e1 := e1S2.st k; have e3 := e3S2.st k; have rp1 := rp1S2.st k; have rp2 := rp2S2.st k; have rp7 := rp7S2.st k; have e10 := e10S2.st k; have ha3 := ha3.st k hb3; exact ⟨s.cell (i := 0) (off := 2) rfl rfl, s.cell (i := 3) (off := 2) rfl rfl, h5, ha3 0 _ rfl⟩) ⟨_, s.pick [0, 1, 2, 3, 4, 5] 6 rfl, kS2⟩ ?_
 obtain ⟨x12, hx7, hf⟩ := bindS hf
 refine RD.op (i := 7) rfl (by kernel_rfl) (by kernel_rfl) (OK.call' en58 (by kernel_rfl) (c58 (F := (.blk b3 (.cells #[.bool p0.Leaf, .slice A8 x3.length u8, .slice A16 x10.length u16, .slice A7 x1.length u7] 26 (0, 0))) :: (.sl (.slice A7 x1.length u7) 3 1 x1.length cl4) :: (.blk b2 (.cells #[.bool false, .slice none 0 0, .slice none 0 0, .slice none 0 0] 26 (0, 0))) :: (.blk b1 (.cells #[.bool p0.Leaf, .slice A1 p0.Pairs.length u1, .slice (some ⟨b6, o2, none⟩) p0.Keys.length u2, .slice A3 p0.Kids.length u3] 26 (0, 0))) :: (.sl (.slice A8 x3.length u8) 48 2 x3.length cl5) :: (.sl (.slice A16 x10.length u16) 27 1 x10.length cl9) :: F) x11 A17 u17 hc10 e10 s hx7) ?_)
 intro X6 hX6
 refine fun _ _ hJ => hJ X6 ?_
 clear s
 intro I8 A18 n8 u18 cl10 w14 s k12 hn3 rp8
 refine hX6 _ _ ?_
 replace e2 := e2.st k12
 replace e10 := e10.st k12
 replace e1 := e1.st k12
 replace e3 := e3.st k12
 replace rp1 := rp1.st k12
 replace rp2 := rp2.st k12
 replace rp7 := rp7.st k12
 replace kk := kk.trans k12
 replace kS2 := kS2.trans k12
 refine ⟨fun _ => ⟨_, s.pick [1, 2, 3, 4, 5, 6] 7 rfl, kS2⟩, RD.fold ?_⟩
 rw [hn3] at s
 try rw [hn3]
 obtain ⟨I9, s', k13, hc11, e11⟩ := St.give s (i := 0) rfl rfl rp8
 replace s := s'; clear s'
 replace e2 := e2.st k13
 replace e10 := e10.st k13
 replace e1 := e1.st k13
 replace e3 := e3.st k13
 replace rp1 := rp1.st k13
 replace rp2 := rp2.st k13
 replace rp7 := rp7.st k13
 replace kk := kk.trans k13
 replace kS2 := kS2.trans k13
 refine RD.op (i := 8) rfl (by kernel_rfl) (by kernel_rfl) (OK.new hT (f := fun b => .slice (some ⟨b, 0, none⟩) 1 1) (cs := [.slice A18 x12.length u18]) (e := 27) (c := .tt) s (by kernel_rfl) trivial ?_)
 clear s
 rintro w15 b7 s k14 -
 replace e2 := e2.st k14
 replace e10 := e10.st k14
 replace e11 := e11.st k14
 replace e1 := e1.st k14
 replace e3 := e3.st k14
 replace rp1 := rp1.st k14
 replace rp2 := rp2.st k14
 replace rp7 := rp7.st k14
 replace kk := kk.trans k14
 replace kS2 := kS2.trans k14
 have rp9 : RepL (Rp.slice (Rp.int .u8)) I9 w15 [.slice A18 x12.length u18] ([x12] : List (List Int)) := RepL.cons (c := [.slice A18 x12.length u18]) (d := []) (⟨_, _, rfl, hc11.1, hc11.2, e11⟩) (RepL.nil)
 replace s : St w1 M I9 ((.sl (.slice (some ⟨b7, 0, none⟩) 1 1) 27 1 1 [.slice A18 x12.length u18]) :: (.blk b3 (.cells #[.bool p0.Leaf, .slice A8 x3.length u8, .slice A16 x10.length u16, .slice A7 x1.length u7] 26 (0, 0))) :: (.sl (.slice A7 x1.length u7) 3 1 x1.length cl4) :: (.blk b2 (.cells #[.bool false, .slice none 0 0, .slice none 0 0, .slice none 0 0] 26 (0, 0))) :: (.blk b1 (.cells #[.bool p0.Leaf, .slice A1 p0.Pairs.length u1, .slice (some ⟨b6, o2, none⟩) p0.Keys.length u2, .slice A3 p0.Kids.length u3] 26 (0, 0))) :: (.sl (.slice A8 x3.length u8) 48 2 x3.length cl5) :: (.sl (.slice A16 x10.length u16) 27 1 x10.length cl9) :: F) w15 := s.blkSl (i := 0) (n := 1) (c := 1) (size := 1) rfl rfl (Nat.le_refl _) (by decide)
 refine ⟨fun _ => ⟨_, s.pick [1, 2, 3, 4, 5, 6] 7 rfl, kS2⟩, RD.fold ?_⟩
 have hs2 := St.src s (i := 0) rfl rfl rp9
 have rq2 := rp9
 obtain ⟨x13, hx8, hf⟩ := bindS hf
 refine RD.op (i := 9) rfl (by kernel_rfl) (by kernel_rfl) (OK.app hT (r := (Rp.slice (Rp.int .u8))) (i := 6) (t := 23) (e := 27) (size := 1) (bytes := 24) (c := u16) (n := x10.length) (m := 1) s (by kernel_rfl) rfl rfl rfl rfl rfl (by decide) rfl rfl rfl rfl rp7 hs2 rq2 flat_slice rfl hx8 ?_)
 clear s
 rintro A19 u19 cl11 w16 s k15 rp10
 replace e2 := e2.st k15
 replace e10 := e10.st k15
 replace e11 := e11.st k15
 replace e1 := e1.st k15
 replace e3 := e3.st k15
 replace rp9 := rp9.st k15
 replace rp1 := rp1.st k15
 replace rp2 := rp2.st k15
 replace rp7 := rp7.st k15
 replace kk := kk.trans k15
 replace kS2 := kS2.trans k15
 refine ⟨fun h => absurd h (by decide), RD.fold ?_⟩
 refine RD.op (i := 10) rfl (by kernel_rfl) (by kernel_rfl) (OK.pure hT (ld := undef) (v := .pointer (some ⟨b3, 2, none⟩)) (c := .tt) (by kernel_rfl) (trivial) ?_)
 refine ⟨fun h => absurd h (by decide), RD.fold ?_⟩
 refine RD.op (i := 11) rfl (by kernel_rfl) (by kernel_rfl) (OK.store hT (i := 1) (b := b3) (off := 2) (n := 1) (vs := [.slice A19 x13.length u19]) (cs := [.bool p0.Leaf, .slice A8 x3.length u8, (.slice A16 x10.length u16), .slice A7 x1.length u7]) (e := 26) s (by kernel_rfl) rfl rfl (flat_ok rfl) (Nat.le_of_ble_eq_true rfl) ?_)
 clear s
 rintro w17 s k16 -
 replace e2 := e2.st k16
 replace e10 := e10.st k16
 replace e11 := e11.st k16
 replace e1 := e1.st k16
 replace e3 := e3.st k16
 replace rp9 := rp9.st k16
 replace rp1 := rp1.st k16
 replace rp2 := rp2.st k16
 replace rp10 := rp10.st k16
 replace kk := kk.trans k16
 replace kS2 := kS2.trans k16
 refine ⟨fun h => absurd h (by decide), RD.fold ?_⟩
 refine RD.done (by kernel_rfl) ?_
 refine WPK.region ?_
 refine RW.seg hT 3 [] [] [.int .i64 x9, .int .i64 (IntKind.i64.wrap (x9 + 1)), .int .i64 (IntKind.i64.wrap (x9 + 1))] [] (by kernel_rfl) (trivial) ?_
 refine RW.nil ?_
 subst hrec2
 replace s := s.pick [1, 2, 3, 4, 5, 6] 7 rfl
 exact ⟨n7, Nat.le_refl _, fun X h => kc (by kernel_rfl) rfl (h I9 (IntKind.i64.wrap (x9 + 1)) x13 A19 u19 cl11 _ hf s kk rp10 e1 e2 e3 rp1 rp2)⟩
 have hf := iteF h4 hf
 refine WPK.condF (Eq.trans (b := .bool (decide (x9 < (p0.Keys.length : Int)))) (by kernel_rfl) (bo_f h4)) ?_
 refine WPK.exit (blockQ.same ?_)
 refine WPK.seq ?_
 refine WPK.region ?_
 refine RW.seg hT 1 [.agg #[.bool p0.Leaf, .slice A8 x3.length u8, .slice A16 x10.length u16, .slice A7 x1.length u7]] [] [.agg #[.bool p0.Leaf, .slice A8 x3.length u8, .slice A16 x10.length u16, .slice A7 x1.length u7]] [.cells ⟨b3, 0, none⟩ [.bool p0.Leaf, .slice A8 x3.length u8, .slice A16 x10.length u16, .slice A7 x1.length u7] 4] (by kernel_rfl) (s.cells (i := 0) rfl rfl rfl) ?_
 refine RW.op (by kernel_rfl) (OK.store hT (i := 2) (b := b2) (off := 0) (n := 4) (vs := [.bool p0.Leaf, .slice A8 x3.length u8, .slice A16 x10.length u16, .slice A7 x1.length u7]) (cs := [.bool false, .slice none 0 0, .slice none 0 0, .slice none 0 0]) (e := 26) s (by kernel_rfl) rfl rfl (flat_ok rfl) (Nat.le_of_ble_eq_true rfl) ?_)
 clear s
 rintro w18 s k17 -
 replace e2 := e2.st k17
 replace e1 := e1.st k17
 replace e3 := e3.st k17
 replace rp1 := rp1.st k17
 replace rp2 := rp2.st k17
 replace rp7 := rp7.st k17
 replace kk := kk.trans k17
 refine RW.nil ?_
 refine WPK.ret (?_)
 obtain rfl := someS hf
 refine Fin.of (rs := [.cell 2 26]) hT [.agg #[.bool p0.Leaf, .slice A8 x3.length u8, .slice A16 x10.length u16, .slice A7 x1.length u7]] (.agg #[.bool p0.Leaf, .slice A8 x3.length u8, .slice A16 x10.length u16, .slice A7 x1.length u7]) [.cells ⟨b2, 0, none⟩ [.bool p0.Leaf, .slice A8 x3.length u8, .slice A16 x10.length u16, .slice A7 x1.length u7] 4] rfl (by kernel_rfl) (s.cells (i := 2) rfl rfl rfl) ?_
 replace s := s.pick [4, 5, 1] 6 rfl
 exact fun X h => vc rfl (h I7 A8 x3.length u8 cl5 A16 x10.length u16 cl9 A7 x1.length u7 cl4 _ s kk rfl rp2 rfl rp7 rfl rp1)
 have e1S3 := e1
 have e2S3 := e2
 have e3S3 := e3
 have kS3 : Kp I w3 I w3 := Kp.refl
 refine WPK.drawM (fun w' => ∃ I' : Nat → Prop, St w1 M I' ((.blk b2 (.cells #[.bool false, .slice none 0 0, .slice none 0 0, .slice none 0 0] 26 (0, 0))) :: (.blk b1 (.cells #[.bool p0.Leaf, .slice A1 p0.Pairs.length u1, .slice A2 p0.Keys.length u2, .slice A3 p0.Kids.length u3] 26 (0, 0))) :: F) w' ∧ Kp I w3 I' w') 8 [0, 1, 0, 4, 12, 31, 0, 127] (by kernel_rfl) (by kernel_rfl) ?_
 intro ht3 w19 hd3
 have k18 := Kp.dr s hd3
 replace s := s.dr hd3
 replace e1 := e1.st k18
 replace e2 := e2.st k18
 replace e3 := e3.st k18
 replace kk := kk.trans k18
 replace kS3 := kS3.trans k18
 refine RD.segM hT ht3 (by kernel_rfl) [0, 1, 2, 3] [.bool p0.Leaf, .slice A3 p0.Kids.length u3] [] [.pointer (some ⟨b1, 0, none⟩), .bool p0.Leaf, .pointer (some ⟨b1, 3, none⟩), .slice A3 p0.Kids.length u3] [.cell ⟨b1, 0, none⟩ (.bool p0.Leaf), .cell ⟨b1, 3, none⟩ (.slice A3 p0.Kids.length u3)] (by kernel_rfl) (by rintro w' ⟨I', s, k⟩; have e1 := e1S3.st k; have e2 := e2S3.st k; have e3 := e3S3.st k; exact ⟨s.cell (i := 1) (off := 0) rfl rfl, s.cell (i := 1) (off := 3) rfl rfl⟩) ⟨_, s.pick [0, 1] 2 rfl, kS3⟩ ?_
 obtain ⟨x14, hx9, hf⟩ := bindS hf
 refine RD.ways [4, 6] (by kernel_rfl) (List.forall_mem_cons.2 ⟨?_, List.forall_mem_cons.2 ⟨?_, fun _ h => nomatch h⟩⟩)
 replace s := s.pushNil 3 1
 obtain ⟨nw1, hs3, rq3⟩ := Elems.src e3
 refine RWay.op rfl (by kernel_rfl) (OK.app hT (r := (Rp.int .i64)) (i := 0) (t := 24) (e := 3) (size := 1) (bytes := 8) (c := 0) (n := 0) (m := p0.Kids.length) s (by kernel_rfl) rfl rfl rfl rfl rfl (by decide) rfl rfl rfl rfl (RepL.nil (r := (Rp.int .i64))) hs3 rq3 flat_int rfl hx9 ?_)
 clear s
 rintro A20 u20 cl12 w20 s k19 rp11
 replace e1 := e1.st k19
 replace e2 := e2.st k19
 replace e3 := e3.st k19
 replace kk := kk.trans k19
 replace kS3 := kS3.trans k19
 refine ⟨fun _ => ⟨_, s.pick [1, 2] 3 rfl, kS3⟩, RD.fold ?_⟩
 refine RD.segM hT ht3 (by kernel_rfl) [5] [] [] [.agg #[.bool p0.Leaf, .slice none 0 0, .slice none 0 0, .slice A20 x14.length u20]] [] (by kernel_rfl) (fun _ _ => trivial) ⟨_, s.pick [1, 2] 3 rfl, kS3⟩ ?_
 refine RD.op (i := 6) rfl (by kernel_rfl) (by kernel_rfl) (OK.new hT (f := fun b => .pointer (some ⟨b, 0, none⟩)) (cs := [.bool false, .slice none 0 0, .slice none 0 0, .slice none 0 0]) (e := 26) (c := .tt) s (by kernel_rfl) trivial ?_)
 clear s
 rintro w21 b8 s k20 -
 replace e1 := e1.st k20
 replace e2 := e2.st k20
 replace e3 := e3.st k20
 replace rp11 := rp11.st k20
 replace kk := kk.trans k20
 replace kS3 := kS3.trans k20
 refine ⟨fun _ => ⟨_, s.pick [2, 3] 4 rfl, kS3⟩, RD.fold ?_⟩
 refine RD.op (i := 7) rfl (by kernel_rfl) (by kernel_rfl) (OK.store hT (i := 0) (b := b8) (off := 0) (n := 4) (vs := [.bool p0.Leaf, .slice none 0 0, .slice none 0 0, .slice A20 x14.length u20]) (cs := [.bool false, .slice none 0 0, .slice none 0 0, .slice none 0 0]) (e := 26) s (by kernel_rfl) rfl rfl (flat_ok rfl) (Nat.le_of_ble_eq_true rfl) ?_)
 clear s
 rintro w22 s k21 -
 replace e1 := e1.st k21
 replace e2 := e2.st k21
 replace e3 := e3.st k21
 replace rp11 := rp11.st k21
 replace kk := kk.trans k21
 replace kS3 := kS3.trans k21
 refine ⟨fun _ => ⟨_, s.pick [2, 3] 4 rfl, kS3⟩, RD.fold ?_⟩
 refine RD.done (by kernel_rfl) ?_
 exact fun X h => kc (by kernel_rfl) rfl (h I x14 b8 A20 u20 cl12 _ hf s kk rp11 e1 e2 e3)
 refine RWay.op rfl (by kernel_rfl) (OK.new hT (f := fun b => .pointer (some ⟨b, 0, none⟩)) (cs := [.bool false, .slice none 0 0, .slice none 0 0, .slice none 0 0]) (e := 26) (c := .tt) s (by kernel_rfl) trivial ?_)
 clear s
 rintro w21 b8 s k20 -
 replace e1 := e1.st k20
 replace e2 := e2.st k20
 replace e3 := e3.st k20
 replace kk := kk.trans k20
 replace kS3 := kS3.trans k20
 refine ⟨fun _ => ⟨_, s.pick [1, 2] 3 rfl, kS3⟩, RD.fold ?_⟩
 replace s := s.pushNil 3 1
 obtain ⟨nw1, hs3, rq3⟩ := Elems.src e3
 refine RD.op (i := 4) rfl (by kernel_rfl) (by kernel_rfl) (OK.app hT (r := (Rp.int .i64)) (i := 0) (t := 24) (e := 3) (size := 1) (bytes := 8) (c := 0) (n := 0) (m := p0.Kids.length) s (by kernel_rfl) rfl rfl rfl rfl rfl (by decide) rfl rfl rfl rfl (RepL.nil (r := (Rp.int .i64))) hs3 rq3 flat_int rfl hx9 ?_)
 clear s
 rintro A20 u20 cl12 w20 s k19 rp11
 replace e1 := e1.st k19
 replace e2 := e2.st k19
 replace e3 := e3.st k19
 replace kk := kk.trans k19
 replace kS3 := kS3.trans k19
 refine ⟨fun _ => ⟨_, s.pick [2, 3] 4 rfl, kS3⟩, RD.fold ?_⟩
 refine RD.segM hT ht3 (by kernel_rfl) [5] [] [] [.agg #[.bool p0.Leaf, .slice none 0 0, .slice none 0 0, .slice A20 x14.length u20]] [] (by kernel_rfl) (fun _ _ => trivial) ⟨_, s.pick [2, 3] 4 rfl, kS3⟩ ?_
 refine RD.op (i := 7) rfl (by kernel_rfl) (by kernel_rfl) (OK.store hT (i := 1) (b := b8) (off := 0) (n := 4) (vs := [.bool p0.Leaf, .slice none 0 0, .slice none 0 0, .slice A20 x14.length u20]) (cs := [.bool false, .slice none 0 0, .slice none 0 0, .slice none 0 0]) (e := 26) s (by kernel_rfl) rfl rfl (flat_ok rfl) (Nat.le_of_ble_eq_true rfl) ?_)
 clear s
 rintro w23 s k22 -
 replace e1 := e1.st k22
 replace e2 := e2.st k22
 replace e3 := e3.st k22
 replace rp11 := rp11.st k22
 replace kk := kk.trans k22
 replace kS3 := kS3.trans k22
 refine ⟨fun _ => ⟨_, s.pick [2, 3] 4 rfl, kS3⟩, RD.fold ?_⟩
 refine RD.done (by kernel_rfl) ?_
 replace s := s.pick [1, 0, 2, 3] 4 rfl
 exact fun X h => kc (by kernel_rfl) rfl (h I x14 b8 A20 u20 cl12 _ hf s kk rp11 e1 e2 e3)
theorem c36 {w1 w : World} {M I : Nat → Prop} {F : List It} (p0 : T_api_Node) (A1 : Option Addr) (u1 : Nat) (A2 : Option Addr) (u2 : Nat) (A3 : Option Addr) (u3 : Nat) (hc1 : (p0.Pairs.length ≤ u1 ∧ u1 ≤ 9223372036854775807)) (e1 : Elems rp_T_api_Pair I w A1 p0.Pairs) (hc2 : (p0.Keys.length ≤ u2 ∧ u2 ≤ 9223372036854775807)) (e2 : Elems (Rp.slice (Rp.int .u8)) I w A2 p0.Keys) (hc3 : (p0.Kids.length ≤ u3 ∧ u3 ≤ 9223372036854775807)) (e3 : Elems (Rp.int .i64) I w A3 p0.Kids) (s : St w1 M I (F) w) {r : (T_api_Node × (List Int) × T_api_Node × Int)} (hf : g36 p0 = some r) :
   Ret Try.prog 36 [.agg #[.bool p0.Leaf, .slice A1 p0.Pairs.length u1, .slice A2 p0.Keys.length u2, .slice A3 p0.Kids.length u3]] w fun v wz => ∀ X : Value → World → Prop, (∀ (I' : Nat → Prop) (A4 : Option Addr) (n1 : Nat) (u4 : Nat) (cl1 : List Value) (A5 : Option Addr) (n2 : Nat) (u5 : Nat) (cl2 : List Value) (A6 : Option Addr) (n3 : Nat) (u6 : Nat) (cl3 : List Value) (A7 : Option Addr) (n4 : Nat) (u7 : Nat) (cl4 : List Value) (A8 : Option Addr) (n5 : Nat) (u8 : Nat) (cl5 : List Value) (A9 : Option Addr) (n6 : Nat) (u9 : Nat) (cl6 : List Value) (A10 : Option Addr) (n7 : Nat) (u10 : Nat) (cl7 : List Value) (w' : World), St w1 M I' ((.sl (.slice A4 n1 u4) 48 2 n1 cl1) :: (.sl (.slice A5 n2 u5) 27 1 n2 cl2) :: (.sl (.slice A6 n3 u6) 3 1 n3 cl3) :: (.sl (.slice A7 n4 u7) 5 1 n4 cl4) :: (.sl (.slice A8 n5 u8) 48 2 n5 cl5) :: (.sl (.slice A9 n6 u9) 27 1 n6 cl6) :: (.sl (.slice A10 n7 u10) 3 1 n7 cl7) :: F) w' → Kp I w I' w' → n1 = r.1.Pairs.length → RepL rp_T_api_Pair I' w' cl1 r.1.Pairs → n2 = r.1.Keys.length → RepL (Rp.slice (Rp.int .u8)) I' w' cl2 r.1.Keys → n3 = r.1.Kids.length → RepL (Rp.int .i64) I' w' cl3 r.1.Kids → n4 = r.2.1.length → RepL (Rp.int .u8) I' w' cl4 r.2.1 → n5 = r.2.2.1.Pairs.length → RepL rp_T_api_Pair I' w' cl5 r.2.2.1.Pairs → n6 = r.2.2.1.Keys.length → RepL (Rp.slice (Rp.int .u8)) I' w' cl6 r.2.2.1.Keys → n7 = r.2.2.1.Kids.length → RepL (Rp.int .i64) I' w' cl7 r.2.2.1.Kids → X (.tuple #[.agg #[.bool r.1.Leaf, .slice A4 n1 u4, .slice A5 n2 u5, .slice A6 n3 u6], .slice A7 n4 u7, .agg #[.bool r.2.2.1.Leaf, .slice A8 n5 u8, .slice A9 n6 u9, .slice A10 n7 u10], .int .i64 r.2.2.2]) w') → X v wz := by
 have kk : Kp I w I w := Kp.refl
 unfold g36 at hf
 refine Ret.of Try.func36 rfl ?_
 refine WPK.seq ?_
 refine WPK.region ?_
 refine RW.op (by kernel_rfl) (OK.new hT (f := fun b => .pointer (some ⟨b, 0, none⟩)) (cs := [.bool p0.Leaf, .slice A1 p0.Pairs.length u1, .slice A2 p0.Keys.length u2, .slice A3 p0.Kids.length u3]) (e := 26) (c := .tt) s (by kernel_rfl) trivial ?_)
 clear s
 rintro w2 b1 s k1 -
 replace e1 := e1.st k1
 replace e2 := e2.st k1
 replace e3 := e3.st k1
 replace kk := kk.trans k1
 refine RW.op (by kernel_rfl) (OK.new hT (f := fun b => .pointer (some ⟨b, 0, none⟩)) (cs := [.bool false, .slice none 0 0, .slice none 0 0, .slice none 0 0]) (e := 26) (c := .tt) s (by kernel_rfl) trivial ?_)
 clear s
 rintro w3 b2 s k2 -
 replace e1 := e1.st k2
 replace e2 := e2.st k2
 replace e3 := e3.st k2
 replace kk := kk.trans k2
 refine RW.seg hT 1 [] [] [.slice none 0 0] [] (by kernel_rfl) (trivial) ?_
 refine RW.op (by kernel_rfl) (OK.new hT (f := fun b => .pointer (some ⟨b, 0, none⟩)) (cs := [.bool false, .slice none 0 0, .slice none 0 0, .slice none 0 0]) (e := 26) (c := .tt) s (by kernel_rfl) trivial ?_)
 clear s
 rintro w4 b3 s k3 -
 replace e1 := e1.st k3
 replace e2 := e2.st k3
 replace e3 := e3.st k3
 replace kk := kk.trans k3
 refine RW.seg hT 1 [] [] [.int .i64 0] [] (by kernel_rfl) (trivial) ?_
 refine RW.nil ?_
 refine WPK.seq ?_
 refine WPK.seq ?_
 refine WPK.region ?_
 refine RW.seg hT 1 [.agg #[.bool p0.Leaf, .slice A1 p0.Pairs.length u1, .slice A2 p0.Keys.length u2, .slice A3 p0.Kids.length u3]] [] [.agg #[.bool p0.Leaf, .slice A1 p0.Pairs.length u1, .slice A2 p0.Keys.length u2, .slice A3 p0.Kids.length u3]] [.cells ⟨b1, 0, none⟩ [.bool p0.Leaf, .slice A1 p0.Pairs.length u1, .slice A2 p0.Keys.length u2, .slice A3 p0.Kids.length u3] 4] (by kernel_rfl) (s.cells (i := 2) rfl rfl rfl) ?_
 obtain ⟨x1, hx1, hf⟩ := bindS hf
 refine RW.op (by kernel_rfl) (OK.call' en18 (by kernel_rfl) (c18 (F := (.blk b3 (.cells #[.bool false, .slice none 0 0, .slice none 0 0, .slice none 0 0] 26 (0, 0))) :: (.blk b2 (.cells #[.bool false, .slice none 0 0, .slice none 0 0, .slice none 0 0] 26 (0, 0))) :: (.blk b1 (.cells #[.bool p0.Leaf, .slice A1 p0.Pairs.length u1, .slice A2 p0.Keys.length u2, .slice A3 p0.Kids.length u3] 26 (0, 0))) :: F) p0 A1 u1 A2 u2 A3 u3 hc1 e1 hc2 e2 hc3 e3 s hx1) ?_)
 intro X1 hX1
 refine fun _ _ hJ => hJ X1 ?_
 clear s
 intro I1 w5 s k4
 refine hX1 _ _ ?_
 replace e1 := e1.st k4
 replace e2 := e2.st k4
 replace e3 := e3.st k4
 replace kk := kk.trans k4
 refine RW.seg hT 1 [] [(19, .bool (decide (¬ (x1 = true))))] [.bool (decide (¬ (x1 = true)))] [.veq (.bool (!x1)) (.bool (decide (¬ (x1 = true))))] (by kernel_rfl) (not_b) ?_
 refine RW.nil ?_
 by_cases h1 : ¬ (x1 = true)
 have hf := iteT h1 hf
 refine WPK.condT (Eq.trans (b := .bool (decide (¬ (x1 = true)))) (by kernel_rfl) (bo_t h1)) ?_
 refine WPK.seq ?_
 refine WPK.region ?_
 refine RW.seg hT 2 [] [] [.agg #[.bool false, .slice none 0 0, .slice none 0 0, .slice none 0 0], .agg #[.bool false, .slice none 0 0, .slice none 0 0, .slice none 0 0]] [] (by kernel_rfl) (trivial) ?_
 refine RW.op (by kernel_rfl) (OK.store hT (i := 1) (b := b2) (off := 0) (n := 4) (vs := [.bool false, .slice none 0 0, .slice none 0 0, .slice none 0 0]) (cs := [.bool false, .slice none 0 0, .slice none 0 0, .slice none 0 0]) (e := 26) s (by kernel_rfl) rfl rfl (flat_ok rfl) (Nat.le_of_ble_eq_true rfl) ?_)
 clear s
 rintro w6 s k5 -
 replace e1 := e1.st k5
 replace e2 := e2.st k5
 replace e3 := e3.st k5
 replace kk := kk.trans k5
 refine RW.seg hT 1 [] [] [.slice none 0 0] [] (by kernel_rfl) (trivial) ?_
 refine RW.op (by kernel_rfl) (OK.store hT (i := 0) (b := b3) (off := 0) (n := 4) (vs := [.bool false, .slice none 0 0, .slice none 0 0, .slice none 0 0]) (cs := [.bool false, .slice none 0 0, .slice none 0 0, .slice none 0 0]) (e := 26) s (by kernel_rfl) rfl rfl (flat_ok rfl) (Nat.le_of_ble_eq_true rfl) ?_)
 clear s
 rintro w7 s k6 -
 replace e1 := e1.st k6
 replace e2 := e2.st k6
 replace e3 := e3.st k6
 replace kk := kk.trans k6
 refine RW.seg hT 1 [] [] [.int .i64 100] [] (by kernel_rfl) (trivial) ?_
 refine RW.nil ?_
 refine WPK.ret (?_)
 obtain rfl := someS hf
 refine Fin.of (rs := [.cell 2 26, .tmp 3, .cell 4 26, .tmp 5]) hT [.agg #[.bool false, .slice none 0 0, .slice none 0 0, .slice none 0 0], .agg #[.bool false, .slice none 0 0, .slice none 0 0, .slice none 0 0]] (.tuple #[.agg #[.bool false, .slice none 0 0, .slice none 0 0, .slice none 0 0], .slice none 0 0, .agg #[.bool false, .slice none 0 0, .slice none 0 0, .slice none 0 0], .int .i64 100]) [.cells ⟨b2, 0, none⟩ [.bool false, .slice none 0 0, .slice none 0 0, .slice none 0 0] 4, .cells ⟨b3, 0, none⟩ [.bool false, .slice none 0 0, .slice none 0 0, .slice none 0 0] 4] rfl (by kernel_rfl) (⟨s.cells (i := 1) rfl rfl rfl, s.cells (i := 0) rfl rfl rfl⟩) ?_
 replace s := s.pushNil 48 2
 replace s := s.pushNil 27 1
 replace s := s.pushNil 3 1
 replace s := s.pushNil 5 1
 replace s := s.pushNil 48 2
 replace s := s.pushNil 27 1
 replace s := s.pushNil 3 1
 replace s := s.pick [6, 5, 4, 3, 2, 1, 0] 10 rfl
 exact fun X h => vc rfl (h I1 none 0 0 [] none 0 0 [] none 0 0 [] none 0 0 [] none 0 0 [] none 0 0 [] none 0 0 [] _ s kk rfl (RepL.nil (r := rp_T_api_Pair)) rfl (RepL.nil (r := (Rp.slice (Rp.int .u8)))) rfl (RepL.nil (r := (Rp.int .i64))) rfl (RepL.nil (r := (Rp.int .u8))) rfl (RepL.nil (r := rp_T_api_Pair)) rfl (RepL.nil (r := (Rp.slice (Rp.int .u8)))) rfl (RepL.nil (r := (Rp.int .i64))))
 have hf := iteF h1 hf
 refine WPK.condF (Eq.trans (b := .bool (decide (¬ (x1 = true)))) (by kernel_rfl) (bo_f h1)) ?_
 refine WPK.skip ?_
 refine WPK.seq ?_
 refine WPK.region ?_
 refine RW.seg hT 4 [.slice A1 p0.Pairs.length u1] [] [.pointer (some ⟨b1, 1, none⟩), .slice A1 p0.Pairs.length u1, .int .i64 (p0.Pairs.length : Int), .int .i64 (p0.Pairs.length : Int)] [.cell ⟨b1, 1, none⟩ (.slice A1 p0.Pairs.length u1)] (by kernel_rfl) (s.cell (i := 2) (off := 1) rfl rfl) ?_
 refine RW.nil ?_
 refine WPK.seq ?_
 refine WPK.cut' (Kn fun D1 ds wz => ∀ X : Kont, (∀ (x2 : Int), g36_j1 p0 x2 = some r → X [(gd D1 0), .pointer (some ⟨b1, 0, none⟩), .pointer (some ⟨b2, 0, none⟩), .slice none 0 0, .pointer (some ⟨b3, 0, none⟩), .int .i64 0, .int .i64 x2, undef, undef, undef, undef, (gd D1 11), undef, undef, undef, undef, undef, (gd D1 17), (gd D1 18), (gd D1 19), (gd D1 20), (gd D1 21), (gd D1 22), (gd D1 23), (gd D1 24), (gd D1 25), (gd D1 26), (gd D1 27), (gd D1 28), (gd D1 29), (gd D1 30), (gd D1 31), undef, undef, undef, undef, undef, undef, undef, undef, undef, undef, undef, undef, undef, undef, undef, undef, undef, undef, undef, undef, undef, undef, undef, undef, undef, undef, undef, undef, undef, undef, undef, undef, undef, undef, undef, undef, undef, undef, undef, undef, undef, undef, undef, undef, undef, undef, undef] [] w5) → X D1 ds wz) ?_ ?_
 intro X2 hX2
 refine fun D1 _ _ hJ => hJ X2 ?_
 intro x2 hf
 refine hX2 _ _ _ ?_
 unfold g36_j1 at hf
 refine WPK.seq ?_
 refine WPK.region ?_
 refine RW.seg hT 1 [] [] [.int .i64 0] [] (by kernel_rfl) (trivial) ?_
 refine RW.nil ?_
 refine WPK.seq ?_
 refine WPK.region ?_
 refine RW.seg hT 1 [] [] [.int .i64 0] [] (by kernel_rfl) (trivial) ?_
 refine RW.nil ?_
 refine WPK.seq ?_
 refine WPK.seq ?_
 refine WPK.region ?_
 refine RW.seg hT 1 [] [] [.int .i64 1] [] (by kernel_rfl) (trivial) ?_
 refine RW.nil ?_
 refine WPK.block ?_
 refine WPK.loop' (J := fun n8 D2 ds wz => ∀ X : Kont, (∀ (I2 : Nat → Prop) (x3 : Int) (x4 : Int) (x5 : Int) (w' : World), g36_l2 p0 x2 n8 x3 x4 x5 = some r → St w1 M I2 ((.blk b3 (.cells #[.bool false, .slice none 0 0, .slice none 0 0, .slice none 0 0] 26 (0, 0))) :: (.blk b2 (.cells #[.bool false, .slice none 0 0, .slice none 0 0, .slice none 0 0] 26 (0, 0))) :: (.blk b1 (.cells #[.bool p0.Leaf, .slice A1 p0.Pairs.length u1, .slice A2 p0.Keys.length u2, .slice A3 p0.Kids.length u3] 26 (0, 0))) :: F) w' → Kp I w I2 w' → Elems rp_T_api_Pair I2 w' A1 p0.Pairs → Elems (Rp.slice (Rp.int .u8)) I2 w' A2 p0.Keys → Elems (Rp.int .i64) I2 w' A3 p0.Kids → X [(gd D2 0), .pointer (some ⟨b1, 0, none⟩), .pointer (some ⟨b2, 0, none⟩), .slice none 0 0, .pointer (some ⟨b3, 0, none⟩), .int .i64 0, .int .i64 x2, .int .i64 x3, .int .i64 x4, .int .i64 x5, (gd D2 10), (gd D2 11), (gd D2 12), (gd D2 13), undef, undef, undef, (gd D2 17), (gd D2 18), (gd D2 19), (gd D2 20), (gd D2 21), (gd D2 22), (gd D2 23), (gd D2 24), (gd D2 25), (gd D2 26), (gd D2 27), (gd D2 28), (gd D2 29), (gd D2 30), (gd D2 31), (gd D2 32), (gd D2 33), (gd D2 34), (gd D2 35), (gd D2 36), (gd D2 37), (gd D2 38), (gd D2 39), (gd D2 40), (gd D2 41), (gd D2 42), (gd D2 43), (gd D2 44), (gd D2 45), (gd D2 46), (gd D2 47), (gd D2 48), (gd D2 49), (gd D2 50), (gd D2 51), (gd D2 52), (gd D2 53), (gd D2 54), (gd D2 55), (gd D2 56), (gd D2 57), (gd D2 58), (gd D2 59), (gd D2 60), (gd D2 61), undef, undef, undef, undef, undef, undef, undef, undef, undef, undef, undef, undef, undef, undef, undef, undef, undef] [] w') → X D2 ds wz) FUEL (fun X h => kc (by kernel_rfl) rfl (h I1 0 0 1 _ hf s kk e1 e2 e3)) (fun _ _ _ hJ => hJ (fun _ _ _ => False) (by intro I2 x3 x4 x5 w8 hf s kk e1 e2 e3; exact noneS hf)) ?_
 intro X3 hX3
 refine fun n8 D2 _ _ hJ => hJ (X3 n8) ?_
 clear s
 intro I2 x3 x4 x5 w8 hf s kk e1 e2 e3
 refine hX3 _ _ _ _ ?_
 replace hf : g36_l2B p0 x2 (g36_l2 p0 x2 n8) x3 x4 x5 = some r := hf
 generalize hrec1 : g36_l2 p0 x2 n8 = rec1 at hf
 unfold g36_l2B at hf
 refine WPK.seq ?_
 refine WPK.seq ?_
 refine WPK.region ?_
 refine RW.seg hT 3 [] [] [.int .i64 x5, .int .i64 x2, .bool (decide (x5 < x2))] [] (by kernel_rfl) (trivial) ?_
 refine RW.nil ?_
 by_cases h2 : x5 < x2
 have hf := iteT h2 hf
 refine WPK.condT (Eq.trans (b := .bool (decide (x5 < x2))) (by kernel_rfl) (bo_t h2)) ?_
 refine WPK.skip ?_
 refine WPK.seq ?_
 refine WPK.block ?_
 refine WPK.seq ?_
 refine WPK.region ?_
 refine RW.seg hT 2 [.agg #[.bool p0.Leaf, .slice A1 p0.Pairs.length u1, .slice A2 p0.Keys.length u2, .slice A3 p0.Kids.length u3]] [] [.agg #[.bool p0.Leaf, .slice A1 p0.Pairs.length u1, .slice A2 p0.Keys.length u2, .slice A3 p0.Kids.length u3], .int .i64 x5] [.cells ⟨b1, 0, none⟩ [.bool p0.Leaf, .slice A1 p0.Pairs.length u1, .slice A2 p0.Keys.length u2, .slice A3 p0.Kids.length u3] 4] (by kernel_rfl) (s.cells (i := 2) rfl rfl rfl) ?_
 obtain ⟨x6, hx2, hf⟩ := bindS hf
 refine RW.op (by kernel_rfl) (OK.call' en77 (by kernel_rfl) (c77 (F := (.blk b3 (.cells #[.bool false, .slice none 0 0, .slice none 0 0, .slice none 0 0] 26 (0, 0))) :: (.blk b2 (.cells #[.bool false, .slice none 0 0, .slice none 0 0, .slice none 0 0] 26 (0, 0))) :: (.blk b1 (.cells #[.bool p0.Leaf, .slice A1 p0.Pairs.length u1, .slice A2 p0.Keys.length u2, .slice A3 p0.Kids.length u3] 26 (0, 0))) :: F) p0 x5 A1 u1 A2 u2 A3 u3 hc1 e1 hc2 e2 hc3 e3 s hx2) ?_)
 intro X4 hX4
 refine fun _ _ hJ => hJ X4 ?_
 clear s
 intro I3 A11 u11 A12 u12 A13 u13 A14 u14 A15 u15 A16 u16 A17 u17 w9 s k7 hc4 e4 hc5 e5 hc6 e6 hc7 e7 hc8 e8 hc9 e9 hc10 e10
 refine hX4 _ _ ?_
 replace e1 := e1.st k7
 replace e2 := e2.st k7
 replace e3 := e3.st k7
 replace kk := kk.trans k7
 refine RW.seg hT 4 [] [] [.tuple #[.agg #[.bool x6.1.Leaf, .slice A11 x6.1.Pairs.length u11, .slice A12 x6.1.Keys.length u12, .slice A13 x6.1.Kids.length u13], .slice A14 x6.2.1.length u14, .agg #[.bool x6.2.2.Leaf, .slice A15 x6.2.2.Pairs.length u15, .slice A16 x6.2.2.Keys.length u16, .slice A17 x6.2.2.Kids.length u17]], .agg #[.bool x6.1.Leaf, .slice A11 x6.1.Pairs.length u11, .slice A12 x6.1.Keys.length u12, .slice A13 x6.1.Kids.length u13], .slice A14 x6.2.1.length u14, .agg #[.bool x6.2.2.Leaf, .slice A15 x6.2.2.Pairs.length u15, .slice A16 x6.2.2.Keys.length u16, .slice A17 x6.2.2.Kids.length u17]] [] (by kernel_rfl) (trivial) ?_
 refine RW.op (by kernel_rfl) (OK.new hT (f := fun b => .pointer (some ⟨b, 0, none⟩)) (cs := [.bool false, .slice none 0 0, .slice none 0 0, .slice none 0 0]) (e := 26) (c := .tt) s (by kernel_rfl) trivial ?_)
 clear s
 rintro w10 b4 s k8 -
 replace e4 := e4.st k8
 replace e5 := e5.st k8
 replace e6 := e6.st k8
 replace e7 := e7.st k8
 replace e8 := e8.st k8
 replace e9 := e9.st k8
 replace e10 := e10.st k8
 replace e1 := e1.st k8
 replace e2 := e2.st k8
 replace e3 := e3.st k8
 replace kk := kk.trans k8
 refine RW.op (by kernel_rfl) (OK.new hT (f := fun b => .pointer (some ⟨b, 0, none⟩)) (cs := [.bool false, .slice none 0 0, .slice none 0 0, .slice none 0 0]) (e := 26) (c := .tt) s (by kernel_rfl) trivial ?_)
 clear s
 rintro w11 b5 s k9 -
 replace e4 := e4.st k9
 replace e5 := e5.st k9
 replace e6 := e6.st k9
 replace e7 := e7.st k9
 replace e8 := e8.st k9
 replace e9 := e9.st k9
 replace e10 := e10.st k9
 replace e1 := e1.st k9
 replace e2 := e2.st k9
 replace e3 := e3.st k9
 replace kk := kk.trans k9
 refine RW.op (by kernel_rfl) (OK.store hT (i := 1) (b := b4) (off := 0) (n := 4) (vs := [.bool x6.1.Leaf, .slice A11 x6.1.Pairs.length u11, .slice A12 x6.1.Keys.length u12, .slice A13 x6.1.Kids.length u13]) (cs := [.bool false, .slice none 0 0, .slice none 0 0, .slice none 0 0]) (e := 26) s (by kernel_rfl) rfl rfl (flat_ok rfl) (Nat.le_of_ble_eq_true rfl) ?_)
 clear s
 rintro w12 s k10 -
 replace e4 := e4.st k10
 replace e5 := e5.st k10
 replace e6 := e6.st k10
 replace e7 := e7.st k10
 replace e8 := e8.st k10
 replace e9 := e9.st k10
 replace e10 := e10.st k10
 replace e1 := e1.st k10
 replace e2 := e2.st k10
 replace e3 := e3.st k10
 replace kk := kk.trans k10
 refine RW.seg hT 1 [] [] [.slice A14 x6.2.1.length u14] [] (by kernel_rfl) (trivial) ?_
 refine RW.op (by kernel_rfl) (OK.store hT (i := 0) (b := b5) (off := 0) (n := 4) (vs := [.bool x6.2.2.Leaf, .slice A15 x6.2.2.Pairs.length u15, .slice A16 x6.2.2.Keys.length u16, .slice A17 x6.2.2.Kids.length u17]) (cs := [.bool false, .slice none 0 0, .slice none 0 0, .slice none 0 0]) (e := 26) s (by kernel_rfl) rfl rfl (flat_ok rfl) (Nat.le_of_ble_eq_true rfl) ?_)
 clear s
 rintro w13 s k11 -
 replace e7 := e7.st k11
 replace e4 := e4.st k11
 replace e5 := e5.st k11
 replace e6 := e6.st k11
 replace e8 := e8.st k11
 replace e9 := e9.st k11
 replace e10 := e10.st k11
 replace e1 := e1.st k11
 replace e2 := e2.st k11
 replace e3 := e3.st k11
 replace kk := kk.trans k11
 refine RW.nil ?_
 refine WPK.seq ?_
 have e7S1 := e7
 have e4S1 := e4
 have e5S1 := e5
 have e6S1 := e6
 have e8S1 := e8
 have e9S1 := e9
 have e10S1 := e10
 have e1S1 := e1
 have e2S1 := e2
 have e3S1 := e3
 have kS1 : Kp I3 w13 I3 w13 := Kp.refl
 refine WPK.drawM (fun w' => ∃ I' : Nat → Prop, St w1 M I' ((.blk b5 (.cells #[.bool x6.2.2.Leaf, .slice A15 x6.2.2.Pairs.length u15, .slice A16 x6.2.2.Keys.length u16, .slice A17 x6.2.2.Kids.length u17] 26 (0, 0))) :: (.blk b4 (.cells #[.bool x6.1.Leaf, .slice A11 x6.1.Pairs.length u11, .slice A12 x6.1.Keys.length u12, .slice A13 x6.1.Kids.length u13] 26 (0, 0))) :: (.blk b3 (.cells #[.bool false, .slice none 0 0, .slice none 0 0, .slice none 0 0] 26 (0, 0))) :: (.blk b2 (.cells #[.bool false, .slice none 0 0, .slice none 0 0, .slice none 0 0] 26 (0, 0))) :: (.blk b1 (.cells #[.bool p0.Leaf, .slice A1 p0.Pairs.length u1, .slice A2 p0.Keys.length u2, .slice A3 p0.Kids.length u3] 26 (0, 0))) :: F) w' ∧ Kp I3 w13 I' w') 6 [0, 1, 0, 7, 15, 31] (by kernel_rfl) (by kernel_rfl) ?_
 intro ht1 w14 hd1
 have k12 := Kp.dr s hd1
 replace s := s.dr hd1
 replace e7 := e7.st k12
 replace e4 := e4.st k12
 replace e5 := e5.st k12
 replace e6 := e6.st k12
 replace e8 := e8.st k12
 replace e9 := e9.st k12
 replace e10 := e10.st k12
 replace e1 := e1.st k12
 replace e2 := e2.st k12
 replace e3 := e3.st k12
 replace kk := kk.trans k12
 replace kS1 := kS1.trans k12
 refine RD.segM hT ht1 (by kernel_rfl) [0, 2] [.agg #[.bool x6.1.Leaf, .slice A11 x6.1.Pairs.length u11, .slice A12 x6.1.Keys.length u12, .slice A13 x6.1.Kids.length u13], .agg #[.bool x6.2.2.Leaf, .slice A15 x6.2.2.Pairs.length u15, .slice A16 x6.2.2.Keys.length u16, .slice A17 x6.2.2.Kids.length u17]] [] [.agg #[.bool x6.1.Leaf, .slice A11 x6.1.Pairs.length u11, .slice A12 x6.1.Keys.length u12, .slice A13 x6.1.Kids.length u13], .agg #[.bool x6.2.2.Leaf, .slice A15 x6.2.2.Pairs.length u15, .slice A16 x6.2.2.Keys.length u16, .slice A17 x6.2.2.Kids.length u17]] [.cells ⟨b4, 0, none⟩ [.bool x6.1.Leaf, .slice A11 x6.1.Pairs.length u11, .slice A12 x6.1.Keys.length u12, .slice A13 x6.1.Kids.length u13] 4, .cells ⟨b5, 0, none⟩ [.bool x6.2.2.Leaf, .slice A15 x6.2.2.Pairs.length u15, .slice A16 x6.2.2.Keys.length u16, .slice A17 x6.2.2.Kids.length u17] 4] (by kernel_rfl) (by rintro w' ⟨I', s, k⟩; have e7 := e7S1.st k; have e4 := e4S1.st k; have e5 := e5S1.st k; have e6 := e6S1.st k; have e8 := e8S1.st k; have e9 := e9S1.st k; have e10 := e10S1.st k; have e1 := e1S1.st k; have e2 := e2S1.st k; have e3 := e3S1.st k; exact ⟨s.cells (i := 1) rfl rfl rfl, s.cells (i := 0) rfl rfl rfl⟩) ⟨_, s.pick [0, 1, 2, 3, 4] 5 rfl, kS1⟩ ?_
 obtain ⟨x7, hx3, hf⟩ := bindS hf
 refine RD.op (i := 1) rfl (by kernel_rfl) (by kernel_rfl) (OK.call' en28 (by kernel_rfl) (c28 (F := (.blk b5 (.cells #[.bool x6.2.2.Leaf, .slice A15 x6.2.2.Pairs.length u15, .slice A16 x6.2.2.Keys.length u16, .slice A17 x6.2.2.Kids.length u17] 26 (0, 0))) :: (.blk b4 (.cells #[.bool x6.1.Leaf, .slice A11 x6.1.Pairs.length u11, .slice A12 x6.1.Keys.length u12, .slice A13 x6.1.Kids.length u13] 26 (0, 0))) :: (.blk b3 (.cells #[.bool false, .slice none 0 0, .slice none 0 0, .slice none 0 0] 26 (0, 0))) :: (.blk b2 (.cells #[.bool false, .slice none 0 0, .slice none 0 0, .slice none 0 0] 26 (0, 0))) :: (.blk b1 (.cells #[.bool p0.Leaf, .slice A1 p0.Pairs.length u1, .slice A2 p0.Keys.length u2, .slice A3 p0.Kids.length u3] 26 (0, 0))) :: F) x6.1 A11 u11 A12 u12 A13 u13 hc4 e4 hc5 e5 hc6 e6 s hx3) ?_)
 intro X5 hX5
 refine fun _ _ hJ => hJ X5 ?_
 clear s
 intro I4 w15 s k13
 refine hX5 _ _ ?_
 replace e7 := e7.st k13
 replace e4 := e4.st k13
 replace e5 := e5.st k13
 replace e6 := e6.st k13
 replace e8 := e8.st k13
 replace e9 := e9.st k13
 replace e10 := e10.st k13
 replace e1 := e1.st k13
 replace e2 := e2.st k13
 replace e3 := e3.st k13
 replace kk := kk.trans k13
 replace kS1 := kS1.trans k13
 refine ⟨fun _ => ⟨_, s.pick [0, 1, 2, 3, 4] 5 rfl, kS1⟩, RD.fold ?_⟩
 obtain ⟨x8, hx4, hf⟩ := bindS hf
 refine RD.op (i := 3) rfl (by kernel_rfl) (by kernel_rfl) (OK.call' en28 (by kernel_rfl) (c28 (F := (.blk b5 (.cells #[.bool x6.2.2.Leaf, .slice A15 x6.2.2.Pairs.length u15, .slice A16 x6.2.2.Keys.length u16, .slice A17 x6.2.2.Kids.length u17] 26 (0, 0))) :: (.blk b4 (.cells #[.bool x6.1.Leaf, .slice A11 x6.1.Pairs.length u11, .slice A12 x6.1.Keys.length u12, .slice A13 x6.1.Kids.length u13] 26 (0, 0))) :: (.blk b3 (.cells #[.bool false, .slice none 0 0, .slice none 0 0, .slice none 0 0] 26 (0, 0))) :: (.blk b2 (.cells #[.bool false, .slice none 0 0, .slice none 0 0, .slice none 0 0] 26 (0, 0))) :: (.blk b1 (.cells #[.bool p0.Leaf, .slice A1 p0.Pairs.length u1, .slice A2 p0.Keys.length u2, .slice A3 p0.Kids.length u3] 26 (0, 0))) :: F) x6.2.2 A15 u15 A16 u16 A17 u17 hc8 e8 hc9 e9 hc10 e10 s hx4) ?_)
 intro X6 hX6
 refine fun _ _ hJ => hJ X6 ?_
 clear s
 intro I5 w16 s k14
 refine hX6 _ _ ?_
 replace e7 := e7.st k14
 replace e4 := e4.st k14
 replace e5 := e5.st k14
 replace e6 := e6.st k14
 replace e8 := e8.st k14
 replace e9 := e9.st k14
 replace e10 := e10.st k14
 replace e1 := e1.st k14
 replace e2 := e2.st k14
 replace e3 := e3.st k14
 replace kk := kk.trans k14
 replace kS1 := kS1.trans k14
 refine ⟨fun _ => ⟨_, s.pick [0, 1, 2, 3, 4] 5 rfl, kS1⟩, RD.fold ?_⟩
 refine RD.segM hT ht1 (by kernel_rfl) [4, 5] [] [] [.int .i64 (IntKind.i64.wrap (x7 - x8)), .int .i64 (IntKind.i64.wrap (x7 - x8))] [] (by kernel_rfl) (fun _ _ => trivial) ⟨_, s.pick [0, 1, 2, 3, 4] 5 rfl, kS1⟩ ?_
 refine RD.done (by kernel_rfl) ?_
 refine WPK.seq ?_
 refine WPK.cut' (Kn fun D3 ds wz => ∀ X : Kont, (∀ (x9 : Int), g36_j3 x3 x4 x5 rec1 x9 = some r → X [(gd D3 0), .pointer (some ⟨b1, 0, none⟩), .pointer (some ⟨b2, 0, none⟩), .slice none 0 0, .pointer (some ⟨b3, 0, none⟩), .int .i64 0, .int .i64 x2, .int .i64 x3, .int .i64 x4, .int .i64 x5, .pointer (some ⟨b4, 0, none⟩), (gd D3 11), .pointer (some ⟨b5, 0, none⟩), .int .i64 x9, undef, undef, undef, (gd D3 17), (gd D3 18), (gd D3 19), (gd D3 20), (gd D3 21), (gd D3 22), (gd D3 23), (gd D3 24), (gd D3 25), (gd D3 26), (gd D3 27), (gd D3 28), (gd D3 29), (gd D3 30), (gd D3 31), .int .i64 x5, .int .i64 x2, .bool (decide (x5 < x2)), (gd D2 35), (gd D2 36), .tuple #[.agg #[.bool x6.1.Leaf, .slice A11 x6.1.Pairs.length u11, .slice A12 x6.1.Keys.length u12, .slice A13 x6.1.Kids.length u13], .slice A14 x6.2.1.length u14, .agg #[.bool x6.2.2.Leaf, .slice A15 x6.2.2.Pairs.length u15, .slice A16 x6.2.2.Keys.length u16, .slice A17 x6.2.2.Kids.length u17]], .agg #[.bool p0.Leaf, .slice A1 p0.Pairs.length u1, .slice A2 p0.Keys.length u2, .slice A3 p0.Kids.length u3], .int .i64 x5, .tuple #[.agg #[.bool x6.1.Leaf, .slice A11 x6.1.Pairs.length u11, .slice A12 x6.1.Keys.length u12, .slice A13 x6.1.Kids.length u13], .slice A14 x6.2.1.length u14, .agg #[.bool x6.2.2.Leaf, .slice A15 x6.2.2.Pairs.length u15, .slice A16 x6.2.2.Keys.length u16, .slice A17 x6.2.2.Kids.length u17]], .agg #[.bool x6.1.Leaf, .slice A11 x6.1.Pairs.length u11, .slice A12 x6.1.Keys.length u12, .slice A13 x6.1.Kids.length u13], .slice A14 x6.2.1.length u14, .agg #[.bool x6.2.2.Leaf, .slice A15 x6.2.2.Pairs.length u15, .slice A16 x6.2.2.Keys.length u16, .slice A17 x6.2.2.Kids.length u17], .agg #[.bool x6.1.Leaf, .slice A11 x6.1.Pairs.length u11, .slice A12 x6.1.Keys.length u12, .slice A13 x6.1.Kids.length u13], .int .i64 x7, .agg #[.bool x6.2.2.Leaf, .slice A15 x6.2.2.Pairs.length u15, .slice A16 x6.2.2.Keys.length u16, .slice A17 x6.2.2.Kids.length u17], .int .i64 x8, .int .i64 (IntKind.i64.wrap (x7 - x8)), .int .i64 (IntKind.i64.wrap (x7 - x8)), .bool (decide ((IntKind.i64.wrap (x7 - x8)) < 0)), (gd D3 51), (gd D3 52), (gd D2 53), (gd D2 54), (gd D2 55), (gd D2 56), (gd D2 57), (gd D2 58), (gd D2 59), (gd D2 60), (gd D2 61), undef, undef, undef, undef, undef, undef, undef, undef, undef, undef, undef, undef, undef, undef, undef, undef, undef] [] w16) → X D3 ds wz) ?_ ?_
 intro X7 hX7
 refine fun D3 _ _ hJ => hJ X7 ?_
 intro x9 hf
 refine hX7 _ _ _ ?_
 unfold g36_j3 at hf
 refine WPK.seq ?_
 refine WPK.cut' (Kn fun D4 ds wz => ∀ X : Kont, (∀ (x10 : Bool) (x11 : Bool), g36_j4 x3 x4 x5 rec1 x9 x10 x11 = some r → X [(gd D4 0), .pointer (some ⟨b1, 0, none⟩), .pointer (some ⟨b2, 0, none⟩), .slice none 0 0, .pointer (some ⟨b3, 0, none⟩), .int .i64 0, .int .i64 x2, .int .i64 x3, .int .i64 x4, .int .i64 x5, .pointer (some ⟨b4, 0, none⟩), (gd D4 11), .pointer (some ⟨b5, 0, none⟩), .int .i64 x9, undef, undef, undef, (gd D4 17), (gd D4 18), (gd D4 19), (gd D4 20), (gd D4 21), (gd D4 22), (gd D4 23), (gd D4 24), (gd D4 25), (gd D4 26), (gd D4 27), (gd D4 28), (gd D4 29), (gd D4 30), (gd D4 31), .int .i64 x5, .int .i64 x2, .bool (decide (x5 < x2)), (gd D2 35), (gd D2 36), .tuple #[.agg #[.bool x6.1.Leaf, .slice A11 x6.1.Pairs.length u11, .slice A12 x6.1.Keys.length u12, .slice A13 x6.1.Kids.length u13], .slice A14 x6.2.1.length u14, .agg #[.bool x6.2.2.Leaf, .slice A15 x6.2.2.Pairs.length u15, .slice A16 x6.2.2.Keys.length u16, .slice A17 x6.2.2.Kids.length u17]], .agg #[.bool p0.Leaf, .slice A1 p0.Pairs.length u1, .slice A2 p0.Keys.length u2, .slice A3 p0.Kids.length u3], .int .i64 x5, .tuple #[.agg #[.bool x6.1.Leaf, .slice A11 x6.1.Pairs.length u11, .slice A12 x6.1.Keys.length u12, .slice A13 x6.1.Kids.length u13], .slice A14 x6.2.1.length u14, .agg #[.bool x6.2.2.Leaf, .slice A15 x6.2.2.Pairs.length u15, .slice A16 x6.2.2.Keys.length u16, .slice A17 x6.2.2.Kids.length u17]], .agg #[.bool x6.1.Leaf, .slice A11 x6.1.Pairs.length u11, .slice A12 x6.1.Keys.length u12, .slice A13 x6.1.Kids.length u13], .slice A14 x6.2.1.length u14, .agg #[.bool x6.2.2.Leaf, .slice A15 x6.2.2.Pairs.length u15, .slice A16 x6.2.2.Keys.length u16, .slice A17 x6.2.2.Kids.length u17], .agg #[.bool x6.1.Leaf, .slice A11 x6.1.Pairs.length u11, .slice A12 x6.1.Keys.length u12, .slice A13 x6.1.Kids.length u13], .int .i64 x7, .agg #[.bool x6.2.2.Leaf, .slice A15 x6.2.2.Pairs.length u15, .slice A16 x6.2.2.Keys.length u16, .slice A17 x6.2.2.Kids.length u17], .int .i64 x8, .int .i64 (IntKind.i64.wrap (x7 - x8)), .int .i64 (IntKind.i64.wrap (x7 - x8)), .bool (decide ((IntKind.i64.wrap (x7 - x8)) < 0)), (gd D3 51), (gd D3 52), .int .i64 x3, .bool (decide (x3 = 0)), .bool x10, (gd D4 56), (gd D4 57), (gd D4 58), .bool x11, (gd D2 60), (gd D2 61), undef, undef, undef, undef, undef, undef, undef, undef, undef, undef, undef, undef, undef, undef, undef, undef, undef] [] w16) → X D4 ds wz) ?_ ?_
 intro X8 hX8
 refine fun D4 _ _ hJ => hJ X8 ?_
 intro x10 x11 hf
 refine hX8 _ _ _ ?_
 unfold g36_j4 at hf
 by_cases h3 : x11 = true
 have hf := iteT h3 hf
 refine WPK.condT (Eq.trans (b := .bool x11) (by kernel_rfl) (b_t h3)) ?_
 refine WPK.seq ?_
 refine WPK.region ?_
 refine RW.seg hT 2 [] [] [.int .i64 x5, .int .i64 x5] [] (by kernel_rfl) (trivial) ?_
 refine RW.nil ?_
 refine WPK.region ?_
 refine RW.seg hT 2 [] [] [.int .i64 x9, .int .i64 x9] [] (by kernel_rfl) (trivial) ?_
 refine RW.nil ?_
 refine WPK.region ?_
 refine RW.seg hT 3 [] [] [.int .i64 x5, .int .i64 (IntKind.i64.wrap (x5 + 1)), .int .i64 (IntKind.i64.wrap (x5 + 1))] [] (by kernel_rfl) (trivial) ?_
 refine RW.nil ?_
 subst hrec1
 replace s := s.pick [2, 3, 4] 5 rfl
 exact ⟨n8, Nat.le_refl _, fun X h => kc (by kernel_rfl) rfl (h I5 x5 x9 (IntKind.i64.wrap (x5 + 1)) _ hf s kk e1 e2 e3)⟩
 have hf := iteF h3 hf
 refine WPK.condF (Eq.trans (b := .bool x11) (by kernel_rfl) (b_f h3)) ?_
 refine WPK.skip ?_
 refine WPK.region ?_
 refine RW.seg hT 3 [] [] [.int .i64 x5, .int .i64 (IntKind.i64.wrap (x5 + 1)), .int .i64 (IntKind.i64.wrap (x5 + 1))] [] (by kernel_rfl) (trivial) ?_
 refine RW.nil ?_
 subst hrec1
 replace s := s.pick [2, 3, 4] 5 rfl
 exact ⟨n8, Nat.le_refl _, fun X h => kc (by kernel_rfl) rfl (h I5 x3 x4 (IntKind.i64.wrap (x5 + 1)) _ hf s kk e1 e2 e3)⟩
 refine WPK.region ?_
 refine RW.seg hT 2 [] [(54, .bool (decide (x3 = 0)))] [.int .i64 x3, .bool (decide (x3 = 0))] [.veq (.bool (x3 == 0)) (.bool (decide (x3 = 0)))] (by kernel_rfl) (eq_v) ?_
 by_cases h4 : x3 = 0
 have hf := iteT h4 hf
 refine RW.seg hT 5 [] [(55, .bool true)] [.bool true, undef, undef, undef, .bool true] [.veq (.bool (decide (x3 = 0))) (.bool true)] (by kernel_rfl) (bo_t h4) ?_
 refine RW.nil ?_
 exact fun X h => kc (by kernel_rfl) rfl (h true true hf)
 have hf := iteF h4 hf
 refine RW.seg hT 5 [] [(55, .bool false)] [.bool false, .int .i64 x9, .int .i64 x4, .bool (decide (x9 < x4)), .bool (decide (x9 < x4))] [.veq (.bool (decide (x3 = 0))) (.bool false)] (by kernel_rfl) (bo_f h4) ?_
 refine RW.nil ?_
 exact fun X h => kc (by kernel_rfl) rfl (h false (decide (x9 < x4)) hf)
 refine WPK.seq ?_
 refine WPK.region ?_
 refine RW.seg hT 2 [] [] [.int .i64 (IntKind.i64.wrap (x7 - x8)), .bool (decide ((IntKind.i64.wrap (x7 - x8)) < 0))] [] (by kernel_rfl) (trivial) ?_
 refine RW.nil ?_
 by_cases h5 : (IntKind.i64.wrap (x7 - x8)) < 0
 have hf := iteT h5 hf
 refine WPK.condT (Eq.trans (b := .bool (decide ((IntKind.i64.wrap (x7 - x8)) < 0))) (by kernel_rfl) (bo_t h5)) ?_
 refine WPK.region ?_
 obtain ⟨x12, hx5, hf⟩ := bindS hf
 refine RW.seg hT 3 [] [(13, .int .i64 x12)] [.int .i64 (IntKind.i64.wrap (x7 - x8)), .int .i64 (IntKind.i64.wrap (0 - (IntKind.i64.wrap (x7 - x8)))), .int .i64 x12] [.veq (.int .i64 (IntKind.i64.wrap (0 - (IntKind.i64.wrap (x7 - x8))))) (.int .i64 x12)] (by kernel_rfl) (int_v (someS hx5)) ?_
 refine RW.nil ?_
 exact fun X h => kc (by kernel_rfl) rfl (h x12 hf)
 have hf := iteF h5 hf
 refine WPK.condF (Eq.trans (b := .bool (decide ((IntKind.i64.wrap (x7 - x8)) < 0))) (by kernel_rfl) (bo_f h5)) ?_
 refine WPK.skip ?_
 exact fun X h => kc (by kernel_rfl) rfl (h (IntKind.i64.wrap (x7 - x8)) hf)
 have hf := iteF h2 hf
 refine WPK.condF (Eq.trans (b := .bool (decide (x5 < x2))) (by kernel_rfl) (bo_f h2)) ?_
 refine WPK.exit (blockQ.same ?_)
 refine WPK.seq ?_
 refine WPK.seq ?_
 refine WPK.region ?_
 refine RW.seg hT 2 [] [(63, .bool (decide (x3 = 0)))] [.int .i64 x3, .bool (decide (x3 = 0))] [.veq (.bool (x3 == 0)) (.bool (decide (x3 = 0)))] (by kernel_rfl) (eq_v) ?_
 refine RW.nil ?_
 by_cases h6 : x3 = 0
 have hf := iteT h6 hf
 refine WPK.condT (Eq.trans (b := .bool (decide (x3 = 0))) (by kernel_rfl) (bo_t h6)) ?_
 refine WPK.seq ?_
 refine WPK.region ?_
 refine RW.seg hT 2 [] [] [.agg #[.bool false, .slice none 0 0, .slice none 0 0, .slice none 0 0], .agg #[.bool false, .slice none 0 0, .slice none 0 0, .slice none 0 0]] [] (by kernel_rfl) (trivial) ?_
 refine RW.op (by kernel_rfl) (OK.store hT (i := 1) (b := b2) (off := 0) (n := 4) (vs := [.bool false, .slice none 0 0, .slice none 0 0, .slice none 0 0]) (cs := [.bool false, .slice none 0 0, .slice none 0 0, .slice none 0 0]) (e := 26) s (by kernel_rfl) rfl rfl (flat_ok rfl) (Nat.le_of_ble_eq_true rfl) ?_)
 clear s
 rintro w17 s k15 -
 replace e1 := e1.st k15
 replace e2 := e2.st k15
 replace e3 := e3.st k15
 replace kk := kk.trans k15
 refine RW.seg hT 1 [] [] [.slice none 0 0] [] (by kernel_rfl) (trivial) ?_
 refine RW.op (by kernel_rfl) (OK.store hT (i := 0) (b := b3) (off := 0) (n := 4) (vs := [.bool false, .slice none 0 0, .slice none 0 0, .slice none 0 0]) (cs := [.bool false, .slice none 0 0, .slice none 0 0, .slice none 0 0]) (e := 26) s (by kernel_rfl) rfl rfl (flat_ok rfl) (Nat.le_of_ble_eq_true rfl) ?_)
 clear s
 rintro w18 s k16 -
 replace e1 := e1.st k16
 replace e2 := e2.st k16
 replace e3 := e3.st k16
 replace kk := kk.trans k16
 refine RW.seg hT 1 [] [] [.int .i64 4] [] (by kernel_rfl) (trivial) ?_
 refine RW.nil ?_
 refine WPK.ret (?_)
 obtain rfl := someS hf
 refine Fin.of (rs := [.cell 2 26, .tmp 3, .cell 4 26, .tmp 5]) hT [.agg #[.bool false, .slice none 0 0, .slice none 0 0, .slice none 0 0], .agg #[.bool false, .slice none 0 0, .slice none 0 0, .slice none 0 0]] (.tuple #[.agg #[.bool false, .slice none 0 0, .slice none 0 0, .slice none 0 0], .slice none 0 0, .agg #[.bool false, .slice none 0 0, .slice none 0 0, .slice none 0 0], .int .i64 4]) [.cells ⟨b2, 0, none⟩ [.bool false, .slice none 0 0, .slice none 0 0, .slice none 0 0] 4, .cells ⟨b3, 0, none⟩ [.bool false, .slice none 0 0, .slice none 0 0, .slice none 0 0] 4] rfl (by kernel_rfl) (⟨s.cells (i := 1) rfl rfl rfl, s.cells (i := 0) rfl rfl rfl⟩) ?_
 replace s := s.pushNil 48 2
 replace s := s.pushNil 27 1
 replace s := s.pushNil 3 1
 replace s := s.pushNil 5 1
 replace s := s.pushNil 48 2
 replace s := s.pushNil 27 1
 replace s := s.pushNil 3 1
 replace s := s.pick [6, 5, 4, 3, 2, 1, 0] 10 rfl
 exact fun X h => vc rfl (h I2 none 0 0 [] none 0 0 [] none 0 0 [] none 0 0 [] none 0 0 [] none 0 0 [] none 0 0 [] _ s kk rfl (RepL.nil (r := rp_T_api_Pair)) rfl (RepL.nil (r := (Rp.slice (Rp.int .u8)))) rfl (RepL.nil (r := (Rp.int .i64))) rfl (RepL.nil (r := (Rp.int .u8))) rfl (RepL.nil (r := rp_T_api_Pair)) rfl (RepL.nil (r := (Rp.slice (Rp.int .u8)))) rfl (RepL.nil (r := (Rp.int .i64))))
 have hf := iteF h6 hf
 refine WPK.condF (Eq.trans (b := .bool (decide (x3 = 0))) (by kernel_rfl) (bo_f h6)) ?_
 refine WPK.skip ?_
 refine WPK.seq ?_
 refine WPK.region ?_
 refine RW.seg hT 2 [.agg #[.bool p0.Leaf, .slice A1 p0.Pairs.length u1, .slice A2 p0.Keys.length u2, .slice A3 p0.Kids.length u3]] [] [.agg #[.bool p0.Leaf, .slice A1 p0.Pairs.length u1, .slice A2 p0.Keys.length u2, .slice A3 p0.Kids.length u3], .int .i64 x3] [.cells ⟨b1, 0, none⟩ [.bool p0.Leaf, .slice A1 p0.Pairs.length u1, .slice A2 p0.Keys.length u2, .slice A3 p0.Kids.length u3] 4] (by kernel_rfl) (s.cells (i := 2) rfl rfl rfl) ?_
 obtain ⟨x13, hx6, hf⟩ := bindS hf
 refine RW.op (by kernel_rfl) (OK.call' en77 (by kernel_rfl) (c77 (F := (.blk b3 (.cells #[.bool false, .slice none 0 0, .slice none 0 0, .slice none 0 0] 26 (0, 0))) :: (.blk b2 (.cells #[.bool false, .slice none 0 0, .slice none 0 0, .slice none 0 0] 26 (0, 0))) :: (.blk b1 (.cells #[.bool p0.Leaf, .slice A1 p0.Pairs.length u1, .slice A2 p0.Keys.length u2, .slice A3 p0.Kids.length u3] 26 (0, 0))) :: F) p0 x3 A1 u1 A2 u2 A3 u3 hc1 e1 hc2 e2 hc3 e3 s hx6) ?_)
 intro X9 hX9
 refine fun _ _ hJ => hJ X9 ?_
 clear s
 intro I6 A18 u18 A19 u19 A20 u20 A21 u21 A22 u22 A23 u23 A24 u24 w19 s k17 hc11 e11 hc12 e12 hc13 e13 hc14 e14 hc15 e15 hc16 e16 hc17 e17
 refine hX9 _ _ ?_
 replace e1 := e1.st k17
 replace e2 := e2.st k17
 replace e3 := e3.st k17
 replace kk := kk.trans k17
 refine RW.seg hT 4 [] [] [.tuple #[.agg #[.bool x13.1.Leaf, .slice A18 x13.1.Pairs.length u18, .slice A19 x13.1.Keys.length u19, .slice A20 x13.1.Kids.length u20], .slice A21 x13.2.1.length u21, .agg #[.bool x13.2.2.Leaf, .slice A22 x13.2.2.Pairs.length u22, .slice A23 x13.2.2.Keys.length u23, .slice A24 x13.2.2.Kids.length u24]], .agg #[.bool x13.1.Leaf, .slice A18 x13.1.Pairs.length u18, .slice A19 x13.1.Keys.length u19, .slice A20 x13.1.Kids.length u20], .slice A21 x13.2.1.length u21, .agg #[.bool x13.2.2.Leaf, .slice A22 x13.2.2.Pairs.length u22, .slice A23 x13.2.2.Keys.length u23, .slice A24 x13.2.2.Kids.length u24]] [] (by kernel_rfl) (trivial) ?_
 refine RW.op (by kernel_rfl) (OK.new hT (f := fun b => .pointer (some ⟨b, 0, none⟩)) (cs := [.bool false, .slice none 0 0, .slice none 0 0, .slice none 0 0]) (e := 26) (c := .tt) s (by kernel_rfl) trivial ?_)
 clear s
 rintro w20 b6 s k18 -
 replace e11 := e11.st k18
 replace e12 := e12.st k18
 replace e13 := e13.st k18
 replace e14 := e14.st k18
 replace e15 := e15.st k18
 replace e16 := e16.st k18
 replace e17 := e17.st k18
 replace e1 := e1.st k18
 replace e2 := e2.st k18
 replace e3 := e3.st k18
 replace kk := kk.trans k18
 refine RW.op (by kernel_rfl) (OK.new hT (f := fun b => .pointer (some ⟨b, 0, none⟩)) (cs := [.bool false, .slice none 0 0, .slice none 0 0, .slice none 0 0]) (e := 26) (c := .tt) s (by kernel_rfl) trivial ?_)
 clear s
 rintro w21 b7 s k19 -
 replace e11 := e11.st k19
 replace e12 := e12.st k19
 replace e13 := e13.st k19
 replace e14 := e14.st k19
 replace e15 := e15.st k19
 replace e16 := e16.st k19
 replace e17 := e17.st k19
 replace e1 := e1.st k19
 replace e2 := e2.st k19
 replace e3 := e3.st k19
 replace kk := kk.trans k19
 refine RW.op (by kernel_rfl) (OK.store hT (i := 1) (b := b6) (off := 0) (n := 4) (vs := [.bool x13.1.Leaf, .slice A18 x13.1.Pairs.length u18, .slice A19 x13.1.Keys.length u19, .slice A20 x13.1.Kids.length u20]) (cs := [.bool false, .slice none 0 0, .slice none 0 0, .slice none 0 0]) (e := 26) s (by kernel_rfl) rfl rfl (flat_ok rfl) (Nat.le_of_ble_eq_true rfl) ?_)
 clear s
 rintro w22 s k20 -
 replace e11 := e11.st k20
 replace e12 := e12.st k20
 replace e13 := e13.st k20
 replace e14 := e14.st k20
 replace e15 := e15.st k20
 replace e16 := e16.st k20
 replace e17 := e17.st k20
 replace e1 := e1.st k20
 replace e2 := e2.st k20
 replace e3 := e3.st k20
 replace kk := kk.trans k20
 refine RW.seg hT 1 [] [] [.slice A21 x13.2.1.length u21] [] (by kernel_rfl) (trivial) ?_
 refine RW.op (by kernel_rfl) (OK.store hT (i := 0) (b := b7) (off := 0) (n := 4) (vs := [.bool x13.2.2.Leaf, .slice A22 x13.2.2.Pairs.length u22, .slice A23 x13.2.2.Keys.length u23, .slice A24 x13.2.2.Kids.length u24]) (cs := [.bool false, .slice none 0 0, .slice none 0 0, .slice none 0 0]) (e := 26) s (by kernel_rfl) rfl rfl (flat_ok rfl) (Nat.le_of_ble_eq_true rfl) ?_)
 clear s
 rintro w23 s k21 -
 replace e14 := e14.st k21
 replace e11 := e11.st k21
 replace e12 := e12.st k21
 replace e13 := e13.st k21
 replace e15 := e15.st k21
 replace e16 := e16.st k21
 replace e17 := e17.st k21
 replace e1 := e1.st k21
 replace e2 := e2.st k21
 replace e3 := e3.st k21
 replace kk := kk.trans k21
 refine RW.nil ?_
 refine WPK.seq ?_
 have e14S2 := e14
 have e11S2 := e11
 have e12S2 := e12
 have e13S2 := e13
 have e15S2 := e15
 have e16S2 := e16
 have e17S2 := e17
 have e1S2 := e1
 have e2S2 := e2
 have e3S2 := e3
 have kS2 : Kp I6 w23 I6 w23 := Kp.refl
 refine WPK.drawM (fun w' => ∃ I' : Nat → Prop, St w1 M I' ((.blk b7 (.cells #[.bool x13.2.2.Leaf, .slice A22 x13.2.2.Pairs.length u22, .slice A23 x13.2.2.Keys.length u23, .slice A24 x13.2.2.Kids.length u24] 26 (0, 0))) :: (.blk b6 (.cells #[.bool x13.1.Leaf, .slice A18 x13.1.Pairs.length u18, .slice A19 x13.1.Keys.length u19, .slice A20 x13.1.Kids.length u20] 26 (0, 0))) :: (.blk b3 (.cells #[.bool false, .slice none 0 0, .slice none 0 0, .slice none 0 0] 26 (0, 0))) :: (.blk b2 (.cells #[.bool false, .slice none 0 0, .slice none 0 0, .slice none 0 0] 26 (0, 0))) :: (.blk b1 (.cells #[.bool p0.Leaf, .slice A1 p0.Pairs.length u1, .slice A2 p0.Keys.length u2, .slice A3 p0.Kids.length u3] 26 (0, 0))) :: F) w' ∧ Kp I6 w23 I' w') 6 [0, 1, 0, 7, 0, 31, 63, 127, 255, 511] (by kernel_rfl) (by kernel_rfl) ?_
 intro ht2 w24 hd2
 have k22 := Kp.dr s hd2
 replace s := s.dr hd2
 replace e14 := e14.st k22
 replace e11 := e11.st k22
 replace e12 := e12.st k22
 replace e13 := e13.st k22
 replace e15 := e15.st k22
 replace e16 := e16.st k22
 replace e17 := e17.st k22
 replace e1 := e1.st k22
 replace e2 := e2.st k22
 replace e3 := e3.st k22
 replace kk := kk.trans k22
 replace kS2 := kS2.trans k22
 refine RD.segM hT ht2 (by kernel_rfl) [0, 2, 4] [.agg #[.bool x13.1.Leaf, .slice A18 x13.1.Pairs.length u18, .slice A19 x13.1.Keys.length u19, .slice A20 x13.1.Kids.length u20], .agg #[.bool x13.2.2.Leaf, .slice A22 x13.2.2.Pairs.length u22, .slice A23 x13.2.2.Keys.length u23, .slice A24 x13.2.2.Kids.length u24]] [] [.agg #[.bool x13.1.Leaf, .slice A18 x13.1.Pairs.length u18, .slice A19 x13.1.Keys.length u19, .slice A20 x13.1.Kids.length u20], .slice A21 x13.2.1.length u21, .agg #[.bool x13.2.2.Leaf, .slice A22 x13.2.2.Pairs.length u22, .slice A23 x13.2.2.Keys.length u23, .slice A24 x13.2.2.Kids.length u24]] [.cells ⟨b6, 0, none⟩ [.bool x13.1.Leaf, .slice A18 x13.1.Pairs.length u18, .slice A19 x13.1.Keys.length u19, .slice A20 x13.1.Kids.length u20] 4, .cells ⟨b7, 0, none⟩ [.bool x13.2.2.Leaf, .slice A22 x13.2.2.Pairs.length u22, .slice A23 x13.2.2.Keys.length u23, .slice A24 x13.2.2.Kids.length u24] 4] (by kernel_rfl) (by rintro w' ⟨I', s, k⟩; have e14 := e14S2.st k; have e11 := e11S2.st k; have e12 := e12S2.st k; have e13 := e13S2.st k; have e15 := e15S2.st k; have e16 := e16S2.st k; have e17 := e17S2.st k; have e1 := e1S2.st k; have e2 := e2S2.st k; have e3 := e3S2.st k; exact ⟨s.cells (i := 1) rfl rfl rfl, s.cells (i := 0) rfl rfl rfl⟩) ⟨_, s.pick [0, 1, 2, 3, 4] 5 rfl, kS2⟩ ?_
 obtain ⟨x14, hx7, hf⟩ := bindS hf
 refine RD.op (i := 1) rfl (by kernel_rfl) (by kernel_rfl) (OK.call' en24 (by kernel_rfl) (c24 (F := (.blk b7 (.cells #[.bool x13.2.2.Leaf, .slice A22 x13.2.2.Pairs.length u22, .slice A23 x13.2.2.Keys.length u23, .slice A24 x13.2.2.Kids.length u24] 26 (0, 0))) :: (.blk b6 (.cells #[.bool x13.1.Leaf, .slice A18 x13.1.Pairs.length u18, .slice A19 x13.1.Keys.length u19, .slice A20 x13.1.Kids.length u20] 26 (0, 0))) :: (.blk b3 (.cells #[.bool false, .slice none 0 0, .slice none 0 0, .slice none 0 0] 26 (0, 0))) :: (.blk b2 (.cells #[.bool false, .slice none 0 0, .slice none 0 0, .slice none 0 0] 26 (0, 0))) :: (.blk b1 (.cells #[.bool p0.Leaf, .slice A1 p0.Pairs.length u1, .slice A2 p0.Keys.length u2, .slice A3 p0.Kids.length u3] 26 (0, 0))) :: F) x13.1 A18 u18 A19 u19 A20 u20 hc11 e11 hc12 e12 hc13 e13 s hx7) ?_)
 intro X10 hX10
 refine fun _ _ hJ => hJ X10 ?_
 clear s
 intro I7 A25 n9 u25 cl8 A26 n10 u26 cl9 A27 n11 u27 cl10 w25 s k23 hn1 rp1 hn2 rp2 hn3 rp3
 refine hX10 _ _ ?_
 replace e14 := e14.st k23
 replace e11 := e11.st k23
 replace e12 := e12.st k23
 replace e13 := e13.st k23
 replace e15 := e15.st k23
 replace e16 := e16.st k23
 replace e17 := e17.st k23
 replace e1 := e1.st k23
 replace e2 := e2.st k23
 replace e3 := e3.st k23
 replace kk := kk.trans k23
 replace kS2 := kS2.trans k23
 refine ⟨fun _ => ⟨_, s.pick [3, 4, 5, 6, 7] 8 rfl, kS2⟩, RD.fold ?_⟩
 obtain ⟨x15, hx8, hf⟩ := bindS hf
 refine RD.op (i := 3) rfl (by kernel_rfl) (by kernel_rfl) (OK.call' en58 (by kernel_rfl) (c58 (F := (.sl (.slice A25 n9 u25) 48 2 n9 cl8) :: (.sl (.slice A26 n10 u26) 27 1 n10 cl9) :: (.sl (.slice A27 n11 u27) 3 1 n11 cl10) :: (.blk b7 (.cells #[.bool x13.2.2.Leaf, .slice A22 x13.2.2.Pairs.length u22, .slice A23 x13.2.2.Keys.length u23, .slice A24 x13.2.2.Kids.length u24] 26 (0, 0))) :: (.blk b6 (.cells #[.bool x13.1.Leaf, .slice A18 x13.1.Pairs.length u18, .slice A19 x13.1.Keys.length u19, .slice A20 x13.1.Kids.length u20] 26 (0, 0))) :: (.blk b3 (.cells #[.bool false, .slice none 0 0, .slice none 0 0, .slice none 0 0] 26 (0, 0))) :: (.blk b2 (.cells #[.bool false, .slice none 0 0, .slice none 0 0, .slice none 0 0] 26 (0, 0))) :: (.blk b1 (.cells #[.bool p0.Leaf, .slice A1 p0.Pairs.length u1, .slice A2 p0.Keys.length u2, .slice A3 p0.Kids.length u3] 26 (0, 0))) :: F) x13.2.1 A21 u21 hc14 e14 s hx8) ?_)
 intro X11 hX11
 refine fun _ _ hJ => hJ X11 ?_
 clear s
 intro I8 A28 n12 u28 cl11 w26 s k24 hn4 rp4
 refine hX11 _ _ ?_
 replace e14 := e14.st k24
 replace e11 := e11.st k24
 replace e12 := e12.st k24
 replace e13 := e13.st k24
 replace e15 := e15.st k24
 replace e16 := e16.st k24
 replace e17 := e17.st k24
 replace e1 := e1.st k24
 replace e2 := e2.st k24
 replace e3 := e3.st k24
 replace rp1 := rp1.st k24
 replace rp2 := rp2.st k24
 replace rp3 := rp3.st k24
 replace kk := kk.trans k24
 replace kS2 := kS2.trans k24
 refine ⟨fun _ => ⟨_, s.pick [4, 5, 6, 7, 8] 9 rfl, kS2⟩, RD.fold ?_⟩
 obtain ⟨x16, hx9, hf⟩ := bindS hf
 refine RD.op (i := 5) rfl (by kernel_rfl) (by kernel_rfl) (OK.call' en24 (by kernel_rfl) (c24 (F := (.sl (.slice A28 n12 u28) 5 1 n12 cl11) :: (.sl (.slice A25 n9 u25) 48 2 n9 cl8) :: (.sl (.slice A26 n10 u26) 27 1 n10 cl9) :: (.sl (.slice A27 n11 u27) 3 1 n11 cl10) :: (.blk b7 (.cells #[.bool x13.2.2.Leaf, .slice A22 x13.2.2.Pairs.length u22, .slice A23 x13.2.2.Keys.length u23, .slice A24 x13.2.2.Kids.length u24] 26 (0, 0))) :: (.blk b6 (.cells #[.bool x13.1.Leaf, .slice A18 x13.1.Pairs.length u18, .slice A19 x13.1.Keys.length u19, .slice A20 x13.1.Kids.length u20] 26 (0, 0))) :: (.blk b3 (.cells #[.bool false, .slice none 0 0, .slice none 0 0, .slice none 0 0] 26 (0, 0))) :: (.blk b2 (.cells #[.bool false, .slice none 0 0, .slice none 0 0, .slice none 0 0] 26 (0, 0))) :: (.blk b1 (.cells #[.bool p0.Leaf, .slice A1 p0.Pairs.length u1, .slice A2 p0.Keys.length u2, .slice A3 p0.Kids.length u3] 26 (0, 0))) :: F) x13.2.2 A22 u22 A23 u23 A24 u24 hc15 e15 hc16 e16 hc17 e17 s hx9) ?_)
 intro X12 hX12
 refine fun _ _ hJ => hJ X12 ?_
 clear s
 intro I9 A29 n13 u29 cl12 A30 n14 u30 cl13 A31 n15 u31 cl14 w27 s k25 hn5 rp5 hn6 rp6 hn7 rp7
 refine hX12 _ _ ?_
 replace e14 := e14.st k25
 replace e11 := e11.st k25
 replace e12 := e12.st k25
 replace e13 := e13.st k25
 replace e15 := e15.st k25
 replace e16 := e16.st k25
 replace e17 := e17.st k25
 replace e1 := e1.st k25
 replace e2 := e2.st k25
 replace e3 := e3.st k25
 replace rp4 := rp4.st k25
 replace rp1 := rp1.st k25
 replace rp2 := rp2.st k25
 replace rp3 := rp3.st k25
 replace kk := kk.trans k25
 replace kS2 := kS2.trans k25
 refine ⟨fun _ => ⟨_, s.pick [7, 8, 9, 10, 11] 12 rfl, kS2⟩, RD.fold ?_⟩
 refine RD.op (i := 6) rfl (by kernel_rfl) (by kernel_rfl) (OK.store hT (i := 10) (b := b2) (off := 0) (n := 4) (vs := [.bool x14.Leaf, .slice A25 n9 u25, .slice A26 n10 u26, .slice A27 n11 u27]) (cs := [.bool false, .slice none 0 0, .slice none 0 0, .slice none 0 0]) (e := 26) s (by kernel_rfl) rfl rfl (flat_ok rfl) (Nat.le_of_ble_eq_true rfl) ?_)
 clear s
 rintro w28 s k26 -
 replace e14 := e14.st k26
 replace e11 := e11.st k26
 replace e12 := e12.st k26
 replace e13 := e13.st k26
 replace e15 := e15.st k26
 replace e16 := e16.st k26
 replace e17 := e17.st k26
 replace e1 := e1.st k26
 replace e2 := e2.st k26
 replace e3 := e3.st k26
 replace rp5 := rp5.st k26
 replace rp6 := rp6.st k26
 replace rp7 := rp7.st k26
 replace rp4 := rp4.st k26
 replace rp1 := rp1.st k26
 replace rp2 := rp2.st k26
 replace rp3 := rp3.st k26
 replace kk := kk.trans k26
 replace kS2 := kS2.trans k26
 refine ⟨fun h => absurd h (by decide), RD.fold ?_⟩
 refine RD.op (i := 7) rfl (by kernel_rfl) (by kernel_rfl) (OK.pure hT (ld := undef) (v := .slice A28 n12 u28) (c := .tt) (by kernel_rfl) (trivial) ?_)
 refine ⟨fun h => absurd h (by decide), RD.fold ?_⟩
 refine RD.op (i := 8) rfl (by kernel_rfl) (by kernel_rfl) (OK.store hT (i := 9) (b := b3) (off := 0) (n := 4) (vs := [.bool x16.Leaf, .slice A29 n13 u29, .slice A30 n14 u30, .slice A31 n15 u31]) (cs := [.bool false, .slice none 0 0, .slice none 0 0, .slice none 0 0]) (e := 26) s (by kernel_rfl) rfl rfl (flat_ok rfl) (Nat.le_of_ble_eq_true rfl) ?_)
 clear s
 rintro w29 s k27 -
 replace e14 := e14.st k27
 replace e11 := e11.st k27
 replace e12 := e12.st k27
 replace e13 := e13.st k27
 replace e15 := e15.st k27
 replace e16 := e16.st k27
 replace e17 := e17.st k27
 replace e1 := e1.st k27
 replace e2 := e2.st k27
 replace e3 := e3.st k27
 replace rp5 := rp5.st k27
 replace rp6 := rp6.st k27
 replace rp7 := rp7.st k27
 replace rp4 := rp4.st k27
 replace rp1 := rp1.st k27
 replace rp2 := rp2.st k27
 replace rp3 := rp3.st k27
 replace kk := kk.trans k27
 replace kS2 := kS2.trans k27
 refine ⟨fun h => absurd h (by decide), RD.fold ?_⟩
 refine RD.op (i := 9) rfl (by kernel_rfl) (by kernel_rfl) (OK.pure hT (ld := undef) (v := .int .i64 0) (c := .tt) (by kernel_rfl) (trivial) ?_)
 refine ⟨fun h => absurd h (by decide), RD.fold ?_⟩
 refine RD.done (by kernel_rfl) ?_
 refine WPK.ret (?_)
 obtain rfl := someS hf
 refine Fin.of (rs := [.cell 2 26, .tmp 3, .cell 4 26, .tmp 5]) hT [.agg #[.bool x14.Leaf, .slice A25 n9 u25, .slice A26 n10 u26, .slice A27 n11 u27], .agg #[.bool x16.Leaf, .slice A29 n13 u29, .slice A30 n14 u30, .slice A31 n15 u31]] (.tuple #[.agg #[.bool x14.Leaf, .slice A25 n9 u25, .slice A26 n10 u26, .slice A27 n11 u27], .slice A28 n12 u28, .agg #[.bool x16.Leaf, .slice A29 n13 u29, .slice A30 n14 u30, .slice A31 n15 u31], .int .i64 0]) [.cells ⟨b2, 0, none⟩ [.bool x14.Leaf, .slice A25 n9 u25, .slice A26 n10 u26, .slice A27 n11 u27] 4, .cells ⟨b3, 0, none⟩ [.bool x16.Leaf, .slice A29 n13 u29, .slice A30 n14 u30, .slice A31 n15 u31] 4] rfl (by kernel_rfl) (⟨s.cells (i := 10) rfl rfl rfl, s.cells (i := 9) rfl rfl rfl⟩) ?_
 replace s := s.pick [4, 5, 6, 3, 0, 1, 2] 12 rfl
 exact fun X h => vc rfl (h I9 A25 n9 u25 cl8 A26 n10 u26 cl9 A27 n11 u27 cl10 A28 n12 u28 cl11 A29 n13 u29 cl12 A30 n14 u30 cl13 A31 n15 u31 cl14 _ s kk hn1 rp1 hn2 rp2 hn3 rp3 hn4 rp4 hn5 rp5 hn6 rp6 hn7 rp7)
 refine WPK.seq ?_
 refine WPK.region ?_
 refine RW.seg hT 3 [.bool p0.Leaf] [(27, .bool (decide (¬ (p0.Leaf = true))))] [.pointer (some ⟨b1, 0, none⟩), .bool p0.Leaf, .bool (decide (¬ (p0.Leaf = true)))] [.cell ⟨b1, 0, none⟩ (.bool p0.Leaf), .veq (.bool (!p0.Leaf)) (.bool (decide (¬ (p0.Leaf = true))))] (by kernel_rfl) (⟨s.cell (i := 2) (off := 0) rfl rfl, not_b⟩) ?_
 refine RW.nil ?_
 by_cases h7 : ¬ (p0.Leaf = true)
 have hf := iteT h7 hf
 refine WPK.condT (Eq.trans (b := .bool (decide (¬ (p0.Leaf = true)))) (by kernel_rfl) (bo_t h7)) ?_
 refine WPK.region ?_
 refine RW.seg hT 5 [.slice A2 p0.Keys.length u2] [] [.pointer (some ⟨b1, 2, none⟩), .slice A2 p0.Keys.length u2, .int .i64 (p0.Keys.length : Int), .int .i64 (IntKind.i64.wrap ((p0.Keys.length : Int) - 1)), .int .i64 (IntKind.i64.wrap ((p0.Keys.length : Int) - 1))] [.cell ⟨b1, 2, none⟩ (.slice A2 p0.Keys.length u2)] (by kernel_rfl) (s.cell (i := 2) (off := 2) rfl rfl) ?_
 refine RW.nil ?_
 exact fun X h => kc (by kernel_rfl) rfl (h (IntKind.i64.wrap ((p0.Keys.length : Int) - 1)) hf)
 have hf := iteF h7 hf
 refine WPK.condF (Eq.trans (b := .bool (decide (¬ (p0.Leaf = true)))) (by kernel_rfl) (bo_f h7)) ?_
 refine WPK.skip ?_
 exact fun X h => kc (by kernel_rfl) rfl (h (p0.Pairs.length : Int) hf)
theorem c79 {w1 w : World} {M I : Nat → Prop} {F : List It} (p0 : T_api_Node) (A1 : Option Addr) (u1 : Nat) (A2 : Option Addr) (u2 : Nat) (A3 : Option Addr) (u3 : Nat) (hc1 : (p0.Pairs.length ≤ u1 ∧ u1 ≤ 9223372036854775807)) (e1 : Elems rp_T_api_Pair I w A1 p0.Pairs) (hc2 : (p0.Keys.length ≤ u2 ∧ u2 ≤ 9223372036854775807)) (e2 : Elems (Rp.slice (Rp.int .u8)) I w A2 p0.Keys) (hc3 : (p0.Kids.length ≤ u3 ∧ u3 ≤ 9223372036854775807)) (e3 : Elems (Rp.int .i64) I w A3 p0.Kids) (s : St w1 M I (F) w) {r : (T_api_Node × Int)} (hf : g79 p0 = some r) :
   Ret Try.prog 79 [.agg #[.bool p0.Leaf, .slice A1 p0.Pairs.length u1, .slice A2 p0.Keys.length u2, .slice A3 p0.Kids.length u3]] w fun v wz => ∀ X : Value → World → Prop, (∀ (I' : Nat → Prop) (A4 : Option Addr) (u4 : Nat) (A5 : Option Addr) (u5 : Nat) (A6 : Option Addr) (u6 : Nat) (w' : World), St w1 M I' (F) w' → Kp I w I' w' → (r.1.Pairs.length ≤ u4 ∧ u4 ≤ 9223372036854775807) → Elems rp_T_api_Pair I' w' A4 r.1.Pairs → (r.1.Keys.length ≤ u5 ∧ u5 ≤ 9223372036854775807) → Elems (Rp.slice (Rp.int .u8)) I' w' A5 r.1.Keys → (r.1.Kids.length ≤ u6 ∧ u6 ≤ 9223372036854775807) → Elems (Rp.int .i64) I' w' A6 r.1.Kids → X (.tuple #[.agg #[.bool r.1.Leaf, .slice A4 r.1.Pairs.length u4, .slice A5 r.1.Keys.length u5, .slice A6 r.1.Kids.length u6], .int .i64 r.2]) w') → X v wz := by
 have kk : Kp I w I w := Kp.refl
 unfold g79 at hf
 refine Ret.of Try.func79 rfl ?_
 refine WPK.seq ?_
 refine WPK.region ?_
 refine RW.op (by kernel_rfl) (OK.new hT (f := fun b => .pointer (some ⟨b, 0, none⟩)) (cs := [.bool p0.Leaf, .slice A1 p0.Pairs.length u1, .slice A2 p0.Keys.length u2, .slice A3 p0.Kids.length u3]) (e := 26) (c := .tt) s (by kernel_rfl) trivial ?_)
 clear s
 rintro w2 b1 s k1 -
 replace e1 := e1.st k1
 replace e2 := e2.st k1
 replace e3 := e3.st k1
 replace kk := kk.trans k1
 refine RW.op (by kernel_rfl) (OK.new hT (f := fun b => .pointer (some ⟨b, 0, none⟩)) (cs := [.bool false, .slice none 0 0, .slice none 0 0, .slice none 0 0]) (e := 26) (c := .tt) s (by kernel_rfl) trivial ?_)
 clear s
 rintro w3 b2 s k2 -
 replace e1 := e1.st k2
 replace e2 := e2.st k2
 replace e3 := e3.st k2
 replace kk := kk.trans k2
 refine RW.seg hT 1 [] [] [.int .i64 0] [] (by kernel_rfl) (trivial) ?_
 refine RW.nil ?_
 refine WPK.seq ?_
 refine WPK.seq ?_
 refine WPK.region ?_
 refine RW.seg hT 1 [.agg #[.bool p0.Leaf, .slice A1 p0.Pairs.length u1, .slice A2 p0.Keys.length u2, .slice A3 p0.Kids.length u3]] [] [.agg #[.bool p0.Leaf, .slice A1 p0.Pairs.length u1, .slice A2 p0.Keys.length u2, .slice A3 p0.Kids.length u3]] [.cells ⟨b1, 0, none⟩ [.bool p0.Leaf, .slice A1 p0.Pairs.length u1, .slice A2 p0.Keys.length u2, .slice A3 p0.Kids.length u3] 4] (by kernel_rfl) (s.cells (i := 1) rfl rfl rfl) ?_
 obtain ⟨x1, hx1, hf⟩ := bindS hf
 refine RW.op (by kernel_rfl) (OK.call' en50 (by kernel_rfl) (c50 (F := (.blk b2 (.cells #[.bool false, .slice none 0 0, .slice none 0 0, .slice none 0 0] 26 (0, 0))) :: (.blk b1 (.cells #[.bool p0.Leaf, .slice A1 p0.Pairs.length u1, .slice A2 p0.Keys.length u2, .slice A3 p0.Kids.length u3] 26 (0, 0))) :: F) p0 A1 u1 A2 u2 A3 u3 hc1 e1 hc2 e2 hc3 e3 s hx1) ?_)
 intro X1 hX1
 refine fun _ _ hJ => hJ X1 ?_
 clear s
 intro I1 w4 s k3
 refine hX1 _ _ ?_
 replace e1 := e1.st k3
 replace e2 := e2.st k3
 replace e3 := e3.st k3
 replace kk := kk.trans k3
 refine RW.seg hT 1 [] [(6, .bool (decide (¬ (x1 = true))))] [.bool (decide (¬ (x1 = true)))] [.veq (.bool (!x1)) (.bool (decide (¬ (x1 = true))))] (by kernel_rfl) (not_b) ?_
 refine RW.nil ?_
 by_cases h1 : ¬ (x1 = true)
 have hf := iteT h1 hf
 refine WPK.condT (Eq.trans (b := .bool (decide (¬ (x1 = true)))) (by kernel_rfl) (bo_t h1)) ?_
 refine WPK.seq ?_
 refine WPK.region ?_
 refine RW.seg hT 1 [] [] [.agg #[.bool false, .slice none 0 0, .slice none 0 0, .slice none 0 0]] [] (by kernel_rfl) (trivial) ?_
 refine RW.op (by kernel_rfl) (OK.store hT (i := 0) (b := b2) (off := 0) (n := 4) (vs := [.bool false, .slice none 0 0, .slice none 0 0, .slice none 0 0]) (cs := [.bool false, .slice none 0 0, .slice none 0 0, .slice none 0 0]) (e := 26) s (by kernel_rfl) rfl rfl (flat_ok rfl) (Nat.le_of_ble_eq_true rfl) ?_)
 clear s
 rintro w5 s k4 -
 replace e1 := e1.st k4
 replace e2 := e2.st k4
 replace e3 := e3.st k4
 replace kk := kk.trans k4
 refine RW.seg hT 1 [] [] [.int .i64 100] [] (by kernel_rfl) (trivial) ?_
 refine RW.nil ?_
 refine WPK.ret (?_)
 obtain rfl := someS hf
 refine Fin.of (rs := [.cell 2 26, .tmp 3]) hT [.agg #[.bool false, .slice none 0 0, .slice none 0 0, .slice none 0 0]] (.tuple #[.agg #[.bool false, .slice none 0 0, .slice none 0 0, .slice none 0 0], .int .i64 100]) [.cells ⟨b2, 0, none⟩ [.bool false, .slice none 0 0, .slice none 0 0, .slice none 0 0] 4] rfl (by kernel_rfl) (s.cells (i := 0) rfl rfl rfl) ?_
 replace s := s.pick [] 2 rfl
 exact fun X h => vc rfl (h I1 none 0 none 0 none 0 _ s kk nil_hc Elems.nil nil_hc Elems.nil nil_hc Elems.nil)
 have hf := iteF h1 hf
 refine WPK.condF (Eq.trans (b := .bool (decide (¬ (x1 = true)))) (by kernel_rfl) (bo_f h1)) ?_
 refine WPK.skip ?_
 refine WPK.seq ?_
 refine WPK.region ?_
 refine RW.seg hT 1 [.agg #[.bool p0.Leaf, .slice A1 p0.Pairs.length u1, .slice A2 p0.Keys.length u2, .slice A3 p0.Kids.length u3]] [] [.agg #[.bool p0.Leaf, .slice A1 p0.Pairs.length u1, .slice A2 p0.Keys.length u2, .slice A3 p0.Kids.length u3]] [.cells ⟨b1, 0, none⟩ [.bool p0.Leaf, .slice A1 p0.Pairs.length u1, .slice A2 p0.Keys.length u2, .slice A3 p0.Kids.length u3] 4] (by kernel_rfl) (s.cells (i := 1) rfl rfl rfl) ?_
 refine RW.op (by kernel_rfl) (OK.store hT (i := 0) (b := b2) (off := 0) (n := 4) (vs := [.bool p0.Leaf, .slice A1 p0.Pairs.length u1, .slice A2 p0.Keys.length u2, .slice A3 p0.Kids.length u3]) (cs := [.bool false, .slice none 0 0, .slice none 0 0, .slice none 0 0]) (e := 26) s (by kernel_rfl) rfl rfl (flat_ok rfl) (Nat.le_of_ble_eq_true rfl) ?_)
 clear s
 rintro w6 s k5 -
 replace e1 := e1.st k5
 replace e2 := e2.st k5
 replace e3 := e3.st k5
 replace kk := kk.trans k5
 refine RW.seg hT 1 [] [] [.int .i64 0] [] (by kernel_rfl) (trivial) ?_
 refine RW.nil ?_
 refine WPK.ret (?_)
 obtain rfl := someS hf
 refine Fin.of (rs := [.cell 2 26, .tmp 3]) hT [.agg #[.bool p0.Leaf, .slice A1 p0.Pairs.length u1, .slice A2 p0.Keys.length u2, .slice A3 p0.Kids.length u3]] (.tuple #[.agg #[.bool p0.Leaf, .slice A1 p0.Pairs.length u1, .slice A2 p0.Keys.length u2, .slice A3 p0.Kids.length u3], .int .i64 0]) [.cells ⟨b2, 0, none⟩ [.bool p0.Leaf, .slice A1 p0.Pairs.length u1, .slice A2 p0.Keys.length u2, .slice A3 p0.Kids.length u3] 4] rfl (by kernel_rfl) (s.cells (i := 0) rfl rfl rfl) ?_
 replace s := s.pick [] 2 rfl
 exact fun X h => vc rfl (h I1 A1 u1 A2 u2 A3 u3 _ s kk hc1 e1 hc2 e2 hc3 e3)
end Go.Proofs.Ytefjbhogpgihaaa
