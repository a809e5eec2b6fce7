/- PRINTED BY sy.py: each call computes what the plain function of its number tells. -/
import Derived.Test.YtefjbhogpgihaaaW7
namespace Go.Proofs.Ytefjbhogpgihaaa
open Go Go.SX Go.RowKit
set_option maxRecDepth 100000
set_option linter.unusedVariables false
attribute [local irreducible] WPK RW RD Ret SX.Fin SX.Any opK RoundBeg RoundEnd RangeEnd Rounds
theorem c20 {w1 w : World} {M I : Nat → Prop} {F : List It} (p0 : T_api_Node) (p1 : T_api_Node) (A1 : Option Addr) (u1 : Nat) (A2 : Option Addr) (u2 : Nat) (A3 : Option Addr) (u3 : Nat) (A4 : Option Addr) (u4 : Nat) (A5 : Option Addr) (u5 : Nat) (A6 : Option Addr) (u6 : Nat) (hc1 : (p0.Pairs.length ≤ u1 ∧ u1 ≤ 9223372036854775807)) (e1 : Elems rp_T_api_Pair I w A1 p0.Pairs) (hc2 : (p0.Keys.length ≤ u2 ∧ u2 ≤ 9223372036854775807)) (e2 : Elems (Rp.slice (Rp.int .u8)) I w A2 p0.Keys) (hc3 : (p0.Kids.length ≤ u3 ∧ u3 ≤ 9223372036854775807)) (e3 : Elems (Rp.int .i64) I w A3 p0.Kids) (hc4 : (p1.Pairs.length ≤ u4 ∧ u4 ≤ 9223372036854775807)) (e4 : Elems rp_T_api_Pair I w A4 p1.Pairs) (hc5 : (p1.Keys.length ≤ u5 ∧ u5 ≤ 9223372036854775807)) (e5 : Elems (Rp.slice (Rp.int .u8)) I w A5 p1.Keys) (hc6 : (p1.Kids.length ≤ u6 ∧ u6 ≤ 9223372036854775807)) (e6 : Elems (Rp.int .i64) I w A6 p1.Kids) (s : St w1 M I (F) w) {r : Bool} (hf : g20 p0 p1 = some r) :
   Ret Try.prog 20 [.agg #[.bool p0.Leaf, .slice A1 p0.Pairs.length u1, .slice A2 p0.Keys.length u2, .slice A3 p0.Kids.length u3], .agg #[.bool p1.Leaf, .slice A4 p1.Pairs.length u4, .slice A5 p1.Keys.length u5, .slice A6 p1.Kids.length u6]] w fun v wz => ∀ X : Value → World → Prop, (∀ (I' : Nat → Prop) (w' : World), St w1 M I' (F) w' → Kp I w I' w' → X (.bool r) w') → X v wz := by
 have kk : Kp I w I w := Kp.refl
 unfold g20 at hf
 refine Ret.of Try.func20 rfl ?_
 refine WPK.seq ?_
 refine WPK.region ?_
 refine RW.op (by kernel_rfl) (OK.new hT (f := fun b => .pointer (some ⟨b, 0, none⟩)) (cs := [.bool p0.Leaf, .slice A1 p0.Pairs.length u1, .slice A2 p0.Keys.length u2, .slice A3 p0.Kids.length u3]) (e := 26) (c := .tt) s (by kernel_rfl) trivial ?_)
 clear s
 rintro w2 b1 s k1 -
 replace e1 := e1.st k1
 replace e2 := e2.st k1
 replace e3 := e3.st k1
 replace e4 := e4.st k1
 replace e5 := e5.st k1
 replace e6 := e6.st k1
 replace kk := kk.trans k1
 refine RW.op (by kernel_rfl) (OK.new hT (f := fun b => .pointer (some ⟨b, 0, none⟩)) (cs := [.bool p1.Leaf, .slice A4 p1.Pairs.length u4, .slice A5 p1.Keys.length u5, .slice A6 p1.Kids.length u6]) (e := 26) (c := .tt) s (by kernel_rfl) trivial ?_)
 clear s
 rintro w3 b2 s k2 -
 replace e1 := e1.st k2
 replace e2 := e2.st k2
 replace e3 := e3.st k2
 replace e4 := e4.st k2
 replace e5 := e5.st k2
 replace e6 := e6.st k2
 replace kk := kk.trans k2
 refine RW.seg hT 1 [] [] [.bool false] [] (by kernel_rfl) (trivial) ?_
 refine RW.nil ?_
 refine WPK.seq ?_
 refine WPK.seq ?_
 refine WPK.cut' (Kn fun D1 ds wz => ∀ X : Kont, (∀ (x1 : Bool), g20_j1 p0 p1 x1 = some r → X [(gd D1 0), (gd D1 1), .pointer (some ⟨b1, 0, none⟩), .pointer (some ⟨b2, 0, none⟩), .bool false, undef, undef, undef, (gd D1 8), (gd D1 9), (gd D1 10), (gd D1 11), (gd D1 12), (gd D1 13), (gd D1 14), (gd D1 15), (gd D1 16), (gd D1 17), (gd D1 18), (gd D1 19), (gd D1 20), (gd D1 21), (gd D1 22), (gd D1 23), (gd D1 24), (gd D1 25), (gd D1 26), (gd D1 27), (gd D1 28), (gd D1 29), (gd D1 30), (gd D1 31), (gd D1 32), (gd D1 33), (gd D1 34), (gd D1 35), (gd D1 36), (gd D1 37), (gd D1 38), .bool x1, undef, undef, undef, undef, undef, undef, undef, undef, undef, undef, undef, undef, undef, undef, undef, undef, undef, undef, undef, undef, undef, undef, undef, undef, undef, undef, undef, undef, undef, undef, undef, undef, undef, undef, undef, undef, undef, undef, undef, undef, undef, undef, undef, undef, undef, undef, undef, undef, undef, undef, undef, undef, undef, undef, undef, undef, undef, undef, undef, undef, undef, undef, undef, undef, undef, undef, undef, undef, undef, undef, undef, undef, undef, undef, undef, undef, undef] [] w3) → X D1 ds wz) ?_ ?_
 intro X1 hX1
 refine fun D1 _ _ hJ => hJ X1 ?_
 intro x1 hf
 refine hX1 _ _ _ ?_
 unfold g20_j1 at hf
 by_cases h1 : x1 = true
 have hf := iteT h1 hf
 refine WPK.condT (Eq.trans (b := .bool x1) (by kernel_rfl) (b_t h1)) ?_
 refine WPK.seq ?_
 refine WPK.region ?_
 refine RW.seg hT 1 [] [] [.bool false] [] (by kernel_rfl) (trivial) ?_
 refine RW.nil ?_
 refine WPK.ret (?_)
 obtain rfl := someS hf
 refine Fin.of (rs := [.tmp 4]) hT [] (.bool false) [] rfl (by kernel_rfl) (trivial) ?_
 replace s := s.pick [] 2 rfl
 exact fun X h => vc rfl (h I _ s kk)
 have hf := iteF h1 hf
 refine WPK.condF (Eq.trans (b := .bool x1) (by kernel_rfl) (b_f h1)) ?_
 refine WPK.skip ?_
 refine WPK.seq ?_
 refine WPK.seq ?_
 refine WPK.region ?_
 refine RW.seg hT 1 [] [] [.int .i64 0] [] (by kernel_rfl) (trivial) ?_
 refine RW.nil ?_
 refine WPK.block ?_
 refine WPK.loop' (J := fun n1 D2 ds wz => ∀ X : Kont, (∀ (I1 : Nat → Prop) (x2 : Int) (w' : World), g20_l2 p0 p1 n1 x2 = some r → St w1 M I1 ((.blk b2 (.cells #[.bool p1.Leaf, .slice A4 p1.Pairs.length u4, .slice A5 p1.Keys.length u5, .slice A6 p1.Kids.length u6] 26 (0, 0))) :: (.blk b1 (.cells #[.bool p0.Leaf, .slice A1 p0.Pairs.length u1, .slice A2 p0.Keys.length u2, .slice A3 p0.Kids.length u3] 26 (0, 0))) :: F) w' → Kp I w I1 w' → Elems rp_T_api_Pair I1 w' A4 p1.Pairs → Elems (Rp.slice (Rp.int .u8)) I1 w' A5 p1.Keys → Elems (Rp.int .i64) I1 w' A6 p1.Kids → Elems rp_T_api_Pair I1 w' A1 p0.Pairs → Elems (Rp.slice (Rp.int .u8)) I1 w' A2 p0.Keys → Elems (Rp.int .i64) I1 w' A3 p0.Kids → X [(gd D2 0), (gd D2 1), .pointer (some ⟨b1, 0, none⟩), .pointer (some ⟨b2, 0, none⟩), .bool false, .int .i64 x2, undef, undef, (gd D2 8), (gd D2 9), (gd D2 10), (gd D2 11), (gd D2 12), (gd D2 13), (gd D2 14), (gd D2 15), (gd D2 16), (gd D2 17), (gd D2 18), (gd D2 19), (gd D2 20), (gd D2 21), (gd D2 22), (gd D2 23), (gd D2 24), (gd D2 25), (gd D2 26), (gd D2 27), (gd D2 28), (gd D2 29), (gd D2 30), (gd D2 31), (gd D2 32), (gd D2 33), (gd D2 34), (gd D2 35), (gd D2 36), (gd D2 37), (gd D2 38), (gd D2 39), (gd D2 40), (gd D2 41), (gd D2 42), (gd D2 43), (gd D2 44), (gd D2 45), (gd D2 46), (gd D2 47), (gd D2 48), (gd D2 49), (gd D2 50), (gd D2 51), (gd D2 52), (gd D2 53), (gd D2 54), (gd D2 55), (gd D2 56), (gd D2 57), (gd D2 58), (gd D2 59), (gd D2 60), (gd D2 61), (gd D2 62), (gd D2 63), (gd D2 64), (gd D2 65), (gd D2 66), (gd D2 67), (gd D2 68), (gd D2 69), (gd D2 70), (gd D2 71), (gd D2 72), (gd D2 73), (gd D2 74), (gd D2 75), (gd D2 76), (gd D2 77), (gd D2 78), undef, undef, undef, undef, undef, undef, undef, undef, undef, undef, undef, undef, undef, undef, undef, undef, undef, undef, undef, undef, undef, undef, undef, undef, undef, undef, undef, undef, undef, undef, undef, undef, undef, undef, undef, undef, undef, undef] [] w') → X D2 ds wz) FUEL (fun X h => kc (by kernel_rfl) rfl (h I 0 _ hf s kk e4 e5 e6 e1 e2 e3)) (fun _ _ _ hJ => hJ (fun _ _ _ => False) (by intro I1 x2 w4 hf s kk e4 e5 e6 e1 e2 e3; exact noneS hf)) ?_
 intro X2 hX2
 refine fun n1 D2 _ _ hJ => hJ (X2 n1) ?_
 clear s
 intro I1 x2 w4 hf s kk e4 e5 e6 e1 e2 e3
 refine hX2 _ _ _ _ ?_
 replace hf : g20_l2B p0 p1 (g20_l2 p0 p1 n1) x2 = some r := hf
 generalize hrec1 : g20_l2 p0 p1 n1 = rec1 at hf
 unfold g20_l2B at hf
 refine WPK.seq ?_
 refine WPK.seq ?_
 refine WPK.region ?_
 refine RW.seg hT 5 [.slice A1 p0.Pairs.length u1] [] [.int .i64 x2, .pointer (some ⟨b1, 1, none⟩), .slice A1 p0.Pairs.length u1, .int .i64 (p0.Pairs.length : Int), .bool (decide (x2 < (p0.Pairs.length : Int)))] [.cell ⟨b1, 1, none⟩ (.slice A1 p0.Pairs.length u1)] (by kernel_rfl) (s.cell (i := 1) (off := 1) rfl rfl) ?_
 refine RW.nil ?_
 by_cases h2 : x2 < (p0.Pairs.length : Int)
 have hf := iteT h2 hf
 refine WPK.condT (Eq.trans (b := .bool (decide (x2 < (p0.Pairs.length : Int)))) (by kernel_rfl) (bo_t h2)) ?_
 refine WPK.skip ?_
 refine WPK.seq ?_
 refine WPK.block ?_
 refine WPK.seq ?_
 have e1S1 := e1
 have e4S1 := e4
 have e5S1 := e5
 have e6S1 := e6
 have e2S1 := e2
 have e3S1 := e3
 have kS1 : Kp I1 w4 I1 w4 := Kp.refl
 refine WPK.drawM (fun w' => ∃ I' : Nat → Prop, St w1 M I' ((.blk b2 (.cells #[.bool p1.Leaf, .slice A4 p1.Pairs.length u4, .slice A5 p1.Keys.length u5, .slice A6 p1.Kids.length u6] 26 (0, 0))) :: (.blk b1 (.cells #[.bool p0.Leaf, .slice A1 p0.Pairs.length u1, .slice A2 p0.Keys.length u2, .slice A3 p0.Kids.length u3] 26 (0, 0))) :: F) w' ∧ Kp I1 w4 I' w') 32 [0, 1, 0, 7, 15, 31, 63, 0, 128, 0, 896, 1920, 3968, 8064, 16383, 32767, 65535, 131071, 65535, 524287, 1048575, 2097151, 4194303, 65535, 8454143, 65535, 58785791, 125894655, 260112383, 528547839, 1073741823, 2147483647] (by kernel_rfl) (by kernel_rfl) ?_
 intro ht1 w5 hd1
 have k3 := Kp.dr s hd1
 replace s := s.dr hd1
 replace e1 := e1.st k3
 replace e4 := e4.st k3
 replace e5 := e5.st k3
 replace e6 := e6.st k3
 replace e2 := e2.st k3
 replace e3 := e3.st k3
 replace kk := kk.trans k3
 replace kS1 := kS1.trans k3
 obtain ⟨x3, hx1, hf⟩ := bindS hf
 obtain ⟨h3, hx1⟩ := getS hx1
 obtain ⟨b3, o1, rfl⟩ := Elems.opn e1 hx1
 obtain ⟨cs1, hr1, ha1, hb1⟩ := Elems.getI e1S1 hx1
 obtain ⟨cs2, cs3, rfl, hr2, hr3⟩ := hr1
 obtain ⟨A7, u7, rfl, q1, q2, e7⟩ := hr2
 have hc7 := And.intro q1 q2
 obtain ⟨A8, u8, rfl, q3, q4, e8⟩ := hr3
 have hc8 := And.intro q3 q4
 have e7S1 := e7
 replace e7 := e7.st kS1
 have e8S1 := e8
 replace e8 := e8.st kS1
 obtain ⟨x4, hx2, hf⟩ := bindS hf
 obtain ⟨h4, hx2⟩ := getS hx2
 obtain ⟨b4, o2, rfl⟩ := Elems.opn e4 hx2
 obtain ⟨cs4, hr4, ha2, hb2⟩ := Elems.getI e4S1 hx2
 obtain ⟨cs5, cs6, rfl, hr5, hr6⟩ := hr4
 obtain ⟨A9, u9, rfl, q5, q6, e9⟩ := hr5
 have hc9 := And.intro q5 q6
 obtain ⟨A10, u10, rfl, q7, q8, e10⟩ := hr6
 have hc10 := And.intro q7 q8
 have e9S1 := e9
 replace e9 := e9.st kS1
 have e10S1 := e10
 replace e10 := e10.st kS1
 refine RD.segM hT ht1 (by kernel_rfl) [0, 1, 2, 3, 4, 5, 6, 7, 8, 9, 10, 11, 12, 13, 14] [.slice (some ⟨b3, o1, none⟩) p0.Pairs.length u1, .slice A7 x3.Key.length u7, .string (strOfNums x3.Key), .slice (some ⟨b4, o2, none⟩) p1.Pairs.length u4, .slice A9 x4.Key.length u9, .string (strOfNums x4.Key)] [(61, .bool (decide ((strOfNums x3.Key).toList ≠ (strOfNums x4.Key).toList)))] [.pointer (some ⟨b1, 1, none⟩), .slice (some ⟨b3, o1, none⟩) p0.Pairs.length u1, .int .i64 x2, .pointer (some ⟨b3, o1 + x2.toNat * 2, none⟩), .pointer (some ⟨b3, o1 + x2.toNat * 2, none⟩), .slice A7 x3.Key.length u7, .string (strOfNums x3.Key), .pointer (some ⟨b2, 1, none⟩), .slice (some ⟨b4, o2, none⟩) p1.Pairs.length u4, .int .i64 x2, .pointer (some ⟨b4, o2 + x2.toNat * 2, none⟩), .pointer (some ⟨b4, o2 + x2.toNat * 2, none⟩), .slice A9 x4.Key.length u9, .string (strOfNums x4.Key), .bool (decide ((strOfNums x3.Key).toList ≠ (strOfNums x4.Key).toList))] [.cell ⟨b1, 1, none⟩ (.slice (some ⟨b3, o1, none⟩) p0.Pairs.length u1), .idx x2 p0.Pairs.length, .cell ⟨b3, o1 + x2.toNat * 2, none⟩ (.slice A7 x3.Key.length u7), .bytes A7 x3.Key.length (strOfNums x3.Key), .cell ⟨b2, 1, none⟩ (.slice (some ⟨b4, o2, none⟩) p1.Pairs.length u4), .idx x2 p1.Pairs.length, .cell ⟨b4, o2 + x2.toNat * 2, none⟩ (.slice A9 x4.Key.length u9), .bytes A9 x4.Key.length (strOfNums x4.Key), .veq (.bool (!((strOfNums x3.Key).toList == (strOfNums x4.Key).toList))) (.bool (decide ((strOfNums x3.Key).toList ≠ (strOfNums x4.Key).toList)))] (by kernel_rfl) (by rintro w' ⟨I', s, k⟩; have e1 := e1S1.st k; have e4 := e4S1.st k; have e5 := e5S1.st k; have e6 := e6S1.st k; have e2 := e2S1.st k; have e3 := e3S1.st k; have e7 := e7S1.st k; have e8 := e8S1.st k; have e9 := e9S1.st k; have e10 := e10S1.st k; have ha1 := ha1.st k hb1; have ha2 := ha2.st k hb2; exact ⟨s.cell (i := 1) (off := 1) rfl rfl, h3, ha1 0 _ rfl, Elems.bytes e7, s.cell (i := 0) (off := 1) rfl rfl, h4, ha2 0 _ rfl, Elems.bytes e9, bne_v⟩) ⟨_, s.pick [0, 1] 2 rfl, kS1⟩ ?_
 by_cases h5 : (strOfNums x3.Key).toList ≠ (strOfNums x4.Key).toList
 have hf := iteT h5 hf
 refine RD.segM hT ht1 (by kernel_rfl) [15, 16, 17, 18, 19, 20, 21, 22, 23, 24, 25, 26, 27, 28, 29, 30, 31] [] [(62, .bool true)] [.bool true, undef, undef, undef, undef, undef, undef, undef, undef, undef, undef, undef, undef, undef, undef, undef, .bool true] [.veq (.bool (decide ((strOfNums x3.Key).toList ≠ (strOfNums x4.Key).toList))) (.bool true)] (by kernel_rfl) (by rintro w' ⟨I', s, k⟩; have e1 := e1S1.st k; have e4 := e4S1.st k; have e5 := e5S1.st k; have e6 := e6S1.st k; have e2 := e2S1.st k; have e3 := e3S1.st k; have e7 := e7S1.st k; have e8 := e8S1.st k; have e9 := e9S1.st k; have e10 := e10S1.st k; exact bo_t h5) ⟨_, s.pick [0, 1] 2 rfl, kS1⟩ ?_
 refine RD.done (by kernel_rfl) ?_
 refine WPK.condT (by kernel_rfl) ?_
 refine WPK.seq ?_
 refine WPK.region ?_
 refine RW.seg hT 1 [] [] [.bool false] [] (by kernel_rfl) (trivial) ?_
 refine RW.nil ?_
 refine WPK.ret (blockQ.ret (blockQ.ret (?_)))
 obtain rfl := someS hf
 refine Fin.of (rs := [.tmp 4]) hT [] (.bool false) [] rfl (by kernel_rfl) (trivial) ?_
 replace s := s.pick [] 2 rfl
 exact fun X h => vc rfl (h I1 _ s kk)
 have hf := iteF h5 hf
 obtain ⟨x5, hx3, hf⟩ := bindS hf
 obtain ⟨h6, hx3⟩ := getS hx3
 obtain ⟨cs7, hr7, ha3, hb3⟩ := Elems.getI e1S1 hx3
 obtain ⟨cs8, cs9, rfl, hr8, hr9⟩ := hr7
 obtain ⟨A11, u11, rfl, q9, q10, e11⟩ := hr8
 have hc11 := And.intro q9 q10
 obtain ⟨A12, u12, rfl, q11, q12, e12⟩ := hr9
 have hc12 := And.intro q11 q12
 have e11S1 := e11
 replace e11 := e11.st kS1
 have e12S1 := e12
 replace e12 := e12.st kS1
 obtain ⟨x6, hx4, hf⟩ := bindS hf
 obtain ⟨h7, hx4⟩ := getS hx4
 obtain ⟨cs10, hr10, ha4, hb4⟩ := Elems.getI e4S1 hx4
 obtain ⟨cs11, cs12, rfl, hr11, hr12⟩ := hr10
 obtain ⟨A13, u13, rfl, q13, q14, e13⟩ := hr11
 have hc13 := And.intro q13 q14
 obtain ⟨A14, u14, rfl, q15, q16, e14⟩ := hr12
 have hc14 := And.intro q15 q16
 have e13S1 := e13
 replace e13 := e13.st kS1
 have e14S1 := e14
 replace e14 := e14.st kS1
 refine RD.segM hT ht1 (by kernel_rfl) [15, 16, 17, 18, 19, 20, 21, 22, 23, 24, 25, 26, 27, 28, 29, 30, 31] [.slice (some ⟨b3, o1, none⟩) p0.Pairs.length u1, .slice A12 x5.Val.length u12, .string (strOfNums x5.Val), .slice (some ⟨b4, o2, none⟩) p1.Pairs.length u4, .slice A14 x6.Val.length u14, .string (strOfNums x6.Val)] [(62, .bool false), (77, .bool (decide ((strOfNums x5.Val).toList ≠ (strOfNums x6.Val).toList)))] [.bool false, .pointer (some ⟨b1, 1, none⟩), .slice (some ⟨b3, o1, none⟩) p0.Pairs.length u1, .int .i64 x2, .pointer (some ⟨b3, o1 + x2.toNat * 2, none⟩), .pointer (some ⟨b3, o1 + x2.toNat * 2 + 1, none⟩), .slice A12 x5.Val.length u12, .string (strOfNums x5.Val), .pointer (some ⟨b2, 1, none⟩), .slice (some ⟨b4, o2, none⟩) p1.Pairs.length u4, .int .i64 x2, .pointer (some ⟨b4, o2 + x2.toNat * 2, none⟩), .pointer (some ⟨b4, o2 + x2.toNat * 2 + 1, none⟩), .slice A14 x6.Val.length u14, .string (strOfNums x6.Val), .bool (decide ((strOfNums x5.Val).toList ≠ (strOfNums x6.Val).toList)), .bool (decide ((strOfNums x5.Val).toList ≠ (strOfNums x6.Val).toList))] [.veq (.bool (decide ((strOfNums x3.Key).toList ≠ (strOfNums x4.Key).toList))) (.bool false), .cell ⟨b1, 1, none⟩ (.slice (some ⟨b3, o1, none⟩) p0.Pairs.length u1), .idx x2 p0.Pairs.length, .cell ⟨b3, o1 + x2.toNat * 2 + 1, none⟩ (.slice A12 x5.Val.length u12), .bytes A12 x5.Val.length (strOfNums x5.Val), .cell ⟨b2, 1, none⟩ (.slice (some ⟨b4, o2, none⟩) p1.Pairs.length u4), .idx x2 p1.Pairs.length, .cell ⟨b4, o2 + x2.toNat * 2 + 1, none⟩ (.slice A14 x6.Val.length u14), .bytes A14 x6.Val.length (strOfNums x6.Val), .veq (.bool (!((strOfNums x5.Val).toList == (strOfNums x6.Val).toList))) (.bool (decide ((strOfNums x5.Val).toList ≠ (strOfNums x6.Val).toList)))] (by kernel_rfl) (by rintro w' ⟨I', s, k⟩; have e1 := e1S1.st k; have e4 := e4S1.st k; have e5 := e5S1.st k; have e6 := e6S1.st k; have e2 := e2S1.st k; have e3 := e3S1.st k; have e7 := e7S1.st k; have e8 := e8S1.st k; have e9 := e9S1.st k; have e10 := e10S1.st k; have e11 := e11S1.st k; have e12 := e12S1.st k; have e13 := e13S1.st k; have e14 := e14S1.st k; have ha3 := ha3.st k hb3; have ha4 := ha4.st k hb4; exact ⟨bo_f h5, s.cell (i := 1) (off := 1) rfl rfl, h6, ha3 1 _ rfl, Elems.bytes e12, s.cell (i := 0) (off := 1) rfl rfl, h7, ha4 1 _ rfl, Elems.bytes e14, bne_v⟩) ⟨_, s.pick [0, 1] 2 rfl, kS1⟩ ?_
 refine RD.done (by kernel_rfl) ?_
 by_cases h8 : (strOfNums x5.Val).toList ≠ (strOfNums x6.Val).toList
 have hf := iteT h8 hf
 refine WPK.condT (Eq.trans (b := .bool (decide ((strOfNums x5.Val).toList ≠ (strOfNums x6.Val).toList))) (by kernel_rfl) (bo_t h8)) ?_
 refine WPK.seq ?_
 refine WPK.region ?_
 refine RW.seg hT 1 [] [] [.bool false] [] (by kernel_rfl) (trivial) ?_
 refine RW.nil ?_
 refine WPK.ret (blockQ.ret (blockQ.ret (?_)))
 obtain rfl := someS hf
 refine Fin.of (rs := [.tmp 4]) hT [] (.bool false) [] rfl (by kernel_rfl) (trivial) ?_
 replace s := s.pick [] 2 rfl
 exact fun X h => vc rfl (h I1 _ s kk)
 have hf := iteF h8 hf
 refine WPK.condF (Eq.trans (b := .bool (decide ((strOfNums x5.Val).toList ≠ (strOfNums x6.Val).toList))) (by kernel_rfl) (bo_f h8)) ?_
 refine WPK.skip ?_
 refine WPK.region ?_
 refine RW.seg hT 3 [] [] [.int .i64 x2, .int .i64 (IntKind.i64.wrap (x2 + 1)), .int .i64 (IntKind.i64.wrap (x2 + 1))] [] (by kernel_rfl) (trivial) ?_
 refine RW.nil ?_
 subst hrec1
 exact ⟨n1, Nat.le_refl _, fun X h => kc (by kernel_rfl) rfl (h I1 (IntKind.i64.wrap (x2 + 1)) _ hf s kk e4 e5 e6 e1 e2 e3)⟩
 have hf := iteF h2 hf
 refine WPK.condF (Eq.trans (b := .bool (decide (x2 < (p0.Pairs.length : Int)))) (by kernel_rfl) (bo_f h2)) ?_
 refine WPK.exit (blockQ.same ?_)
 refine WPK.seq ?_
 refine WPK.seq ?_
 refine WPK.region ?_
 refine RW.seg hT 1 [] [] [.int .i64 0] [] (by kernel_rfl) (trivial) ?_
 refine RW.nil ?_
 refine WPK.block ?_
 refine WPK.loop' (J := fun n2 D3 ds wz => ∀ X : Kont, (∀ (I2 : Nat → Prop) (x7 : Int) (w' : World), g20_l3 p0 p1 n2 x7 = some r → St w1 M I2 ((.blk b2 (.cells #[.bool p1.Leaf, .slice A4 p1.Pairs.length u4, .slice A5 p1.Keys.length u5, .slice A6 p1.Kids.length u6] 26 (0, 0))) :: (.blk b1 (.cells #[.bool p0.Leaf, .slice A1 p0.Pairs.length u1, .slice A2 p0.Keys.length u2, .slice A3 p0.Kids.length u3] 26 (0, 0))) :: F) w' → Kp I w I2 w' → Elems rp_T_api_Pair I2 w' A4 p1.Pairs → Elems (Rp.slice (Rp.int .u8)) I2 w' A5 p1.Keys → Elems (Rp.int .i64) I2 w' A6 p1.Kids → Elems rp_T_api_Pair I2 w' A1 p0.Pairs → Elems (Rp.slice (Rp.int .u8)) I2 w' A2 p0.Keys → Elems (Rp.int .i64) I2 w' A3 p0.Kids → X [(gd D3 0), (gd D3 1), .pointer (some ⟨b1, 0, none⟩), .pointer (some ⟨b2, 0, none⟩), .bool false, (gd D3 5), .int .i64 x7, undef, (gd D3 8), (gd D3 9), (gd D3 10), (gd D3 11), (gd D3 12), (gd D3 13), (gd D3 14), (gd D3 15), (gd D3 16), (gd D3 17), (gd D3 18), (gd D3 19), (gd D3 20), (gd D3 21), (gd D3 22), (gd D3 23), (gd D3 24), (gd D3 25), (gd D3 26), (gd D3 27), (gd D3 28), (gd D3 29), (gd D3 30), (gd D3 31), (gd D3 32), (gd D3 33), (gd D3 34), (gd D3 35), (gd D3 36), (gd D3 37), (gd D3 38), (gd D3 39), (gd D3 40), (gd D3 41), (gd D3 42), (gd D3 43), (gd D3 44), (gd D3 45), (gd D3 46), (gd D3 47), (gd D3 48), (gd D3 49), (gd D3 50), (gd D3 51), (gd D3 52), (gd D3 53), (gd D3 54), (gd D3 55), (gd D3 56), (gd D3 57), (gd D3 58), (gd D3 59), (gd D3 60), (gd D3 61), (gd D3 62), (gd D3 63), (gd D3 64), (gd D3 65), (gd D3 66), (gd D3 67), (gd D3 68), (gd D3 69), (gd D3 70), (gd D3 71), (gd D3 72), (gd D3 73), (gd D3 74), (gd D3 75), (gd D3 76), (gd D3 77), (gd D3 78), (gd D3 79), (gd D3 80), (gd D3 81), (gd D3 82), (gd D3 83), (gd D3 84), (gd D3 85), (gd D3 86), (gd D3 87), (gd D3 88), (gd D3 89), (gd D3 90), (gd D3 91), (gd D3 92), (gd D3 93), (gd D3 94), (gd D3 95), (gd D3 96), (gd D3 97), (gd D3 98), undef, undef, undef, undef, undef, undef, undef, undef, undef, undef, undef, undef, undef, undef, undef, undef, undef, undef] [] w') → X D3 ds wz) FUEL (fun X h => kc (by kernel_rfl) rfl (h I1 0 _ hf s kk e4 e5 e6 e1 e2 e3)) (fun _ _ _ hJ => hJ (fun _ _ _ => False) (by intro I2 x7 w6 hf s kk e4 e5 e6 e1 e2 e3; exact noneS hf)) ?_
 intro X3 hX3
 refine fun n2 D3 _ _ hJ => hJ (X3 n2) ?_
 clear s
 intro I2 x7 w6 hf s kk e4 e5 e6 e1 e2 e3
 refine hX3 _ _ _ _ ?_
 replace hf : g20_l3B p0 p1 (g20_l3 p0 p1 n2) x7 = some r := hf
 generalize hrec2 : g20_l3 p0 p1 n2 = rec2 at hf
 unfold g20_l3B at hf
 refine WPK.seq ?_
 refine WPK.seq ?_
 refine WPK.region ?_
 refine RW.seg hT 5 [.slice A2 p0.Keys.length u2] [] [.int .i64 x7, .pointer (some ⟨b1, 2, none⟩), .slice A2 p0.Keys.length u2, .int .i64 (p0.Keys.length : Int), .bool (decide (x7 < (p0.Keys.length : Int)))] [.cell ⟨b1, 2, none⟩ (.slice A2 p0.Keys.length u2)] (by kernel_rfl) (s.cell (i := 1) (off := 2) rfl rfl) ?_
 refine RW.nil ?_
 by_cases h9 : x7 < (p0.Keys.length : Int)
 have hf := iteT h9 hf
 refine WPK.condT (Eq.trans (b := .bool (decide (x7 < (p0.Keys.length : Int)))) (by kernel_rfl) (bo_t h9)) ?_
 refine WPK.skip ?_
 refine WPK.seq ?_
 refine WPK.block ?_
 refine WPK.seq ?_
 have e2S2 := e2
 have e4S2 := e4
 have e5S2 := e5
 have e6S2 := e6
 have e1S2 := e1
 have e3S2 := e3
 have kS2 : Kp I2 w6 I2 w6 := Kp.refl
 refine WPK.drawM (fun w' => ∃ I' : Nat → Prop, St w1 M I' ((.blk b2 (.cells #[.bool p1.Leaf, .slice A4 p1.Pairs.length u4, .slice A5 p1.Keys.length u5, .slice A6 p1.Kids.length u6] 26 (0, 0))) :: (.blk b1 (.cells #[.bool p0.Leaf, .slice A1 p0.Pairs.length u1, .slice A2 p0.Keys.length u2, .slice A3 p0.Kids.length u3] 26 (0, 0))) :: F) w' ∧ Kp I2 w6 I' w') 13 [0, 1, 0, 7, 15, 31, 0, 64, 0, 448, 960, 1984, 4095] (by kernel_rfl) (by kernel_rfl) ?_
 intro ht2 w7 hd2
 have k4 := Kp.dr s hd2
 replace s := s.dr hd2
 replace e2 := e2.st k4
 replace e4 := e4.st k4
 replace e5 := e5.st k4
 replace e6 := e6.st k4
 replace e1 := e1.st k4
 replace e3 := e3.st k4
 replace kk := kk.trans k4
 replace kS2 := kS2.trans k4
 obtain ⟨x8, hx5, hf⟩ := bindS hf
 obtain ⟨h10, hx5⟩ := getS hx5
 obtain ⟨b5, o3, rfl⟩ := Elems.opn e2 hx5
 obtain ⟨cs13, hr13, ha5, hb5⟩ := Elems.getI e2S2 hx5
 obtain ⟨A15, u15, rfl, q17, q18, e15⟩ := hr13
 have hc15 := And.intro q17 q18
 have e15S2 := e15
 replace e15 := e15.st kS2
 obtain ⟨x9, hx6, hf⟩ := bindS hf
 obtain ⟨h11, hx6⟩ := getS hx6
 obtain ⟨b6, o4, rfl⟩ := Elems.opn e5 hx6
 obtain ⟨cs14, hr14, ha6, hb6⟩ := Elems.getI e5S2 hx6
 obtain ⟨A16, u16, rfl, q19, q20, e16⟩ := hr14
 have hc16 := And.intro q19 q20
 have e16S2 := e16
 replace e16 := e16.st kS2
 refine RD.segM hT ht2 (by kernel_rfl) [0, 1, 2, 3, 4, 5, 6, 7, 8, 9, 10, 11, 12] [.slice (some ⟨b5, o3, none⟩) p0.Keys.length u2, .slice A15 x8.length u15, .string (strOfNums x8), .slice (some ⟨b6, o4, none⟩) p1.Keys.length u5, .slice A16 x9.length u16, .string (strOfNums x9)] [(98, .bool (decide ((strOfNums x8).toList ≠ (strOfNums x9).toList)))] [.pointer (some ⟨b1, 2, none⟩), .slice (some ⟨b5, o3, none⟩) p0.Keys.length u2, .int .i64 x7, .pointer (some ⟨b5, o3 + x7.toNat * 1, none⟩), .slice A15 x8.length u15, .string (strOfNums x8), .pointer (some ⟨b2, 2, none⟩), .slice (some ⟨b6, o4, none⟩) p1.Keys.length u5, .int .i64 x7, .pointer (some ⟨b6, o4 + x7.toNat * 1, none⟩), .slice A16 x9.length u16, .string (strOfNums x9), .bool (decide ((strOfNums x8).toList ≠ (strOfNums x9).toList))] [.cell ⟨b1, 2, none⟩ (.slice (some ⟨b5, o3, none⟩) p0.Keys.length u2), .idx x7 p0.Keys.length, .cell ⟨b5, o3 + x7.toNat * 1, none⟩ (.slice A15 x8.length u15), .bytes A15 x8.length (strOfNums x8), .cell ⟨b2, 2, none⟩ (.slice (some ⟨b6, o4, none⟩) p1.Keys.length u5), .idx x7 p1.Keys.length, .cell ⟨b6, o4 + x7.toNat * 1, none⟩ (.slice A16 x9.length u16), .bytes A16 x9.length (strOfNums x9), .veq (.bool (!((strOfNums x8).toList == (strOfNums x9).toList))) (.bool (decide ((strOfNums x8).toList ≠ (strOfNums x9).toList)))] (by kernel_rfl) (by rintro w' ⟨I', s, k⟩; have e2 := e2S2.st k; have e4 := e4S2.st k; have e5 := e5S2.st k; have e6 := e6S2.st k; have e1 := e1S2.st k; have e3 := e3S2.st k; have e15 := e15S2.st k; have e16 := e16S2.st k; have ha5 := ha5.st k hb5; have ha6 := ha6.st k hb6; exact ⟨s.cell (i := 1) (off := 2) rfl rfl, h10, ha5 0 _ rfl, Elems.bytes e15, s.cell (i := 0) (off := 2) rfl rfl, h11, ha6 0 _ rfl, Elems.bytes e16, bne_v⟩) ⟨_, s.pick [0, 1] 2 rfl, kS2⟩ ?_
 refine RD.done (by kernel_rfl) ?_
 by_cases h12 : (strOfNums x8).toList ≠ (strOfNums x9).toList
 have hf := iteT h12 hf
 refine WPK.condT (Eq.trans (b := .bool (decide ((strOfNums x8).toList ≠ (strOfNums x9).toList))) (by kernel_rfl) (bo_t h12)) ?_
 refine WPK.seq ?_
 refine WPK.region ?_
 refine RW.seg hT 1 [] [] [.bool false] [] (by kernel_rfl) (trivial) ?_
 refine RW.nil ?_
 refine WPK.ret (blockQ.ret (blockQ.ret (?_)))
 obtain rfl := someS hf
 refine Fin.of (rs := [.tmp 4]) hT [] (.bool false) [] rfl (by kernel_rfl) (trivial) ?_
 replace s := s.pick [] 2 rfl
 exact fun X h => vc rfl (h I2 _ s kk)
 have hf := iteF h12 hf
 refine WPK.condF (Eq.trans (b := .bool (decide ((strOfNums x8).toList ≠ (strOfNums x9).toList))) (by kernel_rfl) (bo_f h12)) ?_
 refine WPK.skip ?_
 refine WPK.region ?_
 refine RW.seg hT 3 [] [] [.int .i64 x7, .int .i64 (IntKind.i64.wrap (x7 + 1)), .int .i64 (IntKind.i64.wrap (x7 + 1))] [] (by kernel_rfl) (trivial) ?_
 refine RW.nil ?_
 subst hrec2
 exact ⟨n2, Nat.le_refl _, fun X h => kc (by kernel_rfl) rfl (h I2 (IntKind.i64.wrap (x7 + 1)) _ hf s kk e4 e5 e6 e1 e2 e3)⟩
 have hf := iteF h9 hf
 refine WPK.condF (Eq.trans (b := .bool (decide (x7 < (p0.Keys.length : Int)))) (by kernel_rfl) (bo_f h9)) ?_
 refine WPK.exit (blockQ.same ?_)
 refine WPK.seq ?_
 refine WPK.seq ?_
 refine WPK.region ?_
 refine RW.seg hT 1 [] [] [.int .i64 0] [] (by kernel_rfl) (trivial) ?_
 refine RW.nil ?_
 refine WPK.block ?_
 refine WPK.loop' (J := fun n3 D4 ds wz => ∀ X : Kont, (∀ (I3 : Nat → Prop) (x10 : Int) (w' : World), g20_l4 p0 p1 n3 x10 = some r → St w1 M I3 ((.blk b2 (.cells #[.bool p1.Leaf, .slice A4 p1.Pairs.length u4, .slice A5 p1.Keys.length u5, .slice A6 p1.Kids.length u6] 26 (0, 0))) :: (.blk b1 (.cells #[.bool p0.Leaf, .slice A1 p0.Pairs.length u1, .slice A2 p0.Keys.length u2, .slice A3 p0.Kids.length u3] 26 (0, 0))) :: F) w' → Kp I w I3 w' → Elems rp_T_api_Pair I3 w' A4 p1.Pairs → Elems (Rp.slice (Rp.int .u8)) I3 w' A5 p1.Keys → Elems (Rp.int .i64) I3 w' A6 p1.Kids → Elems rp_T_api_Pair I3 w' A1 p0.Pairs → Elems (Rp.slice (Rp.int .u8)) I3 w' A2 p0.Keys → Elems (Rp.int .i64) I3 w' A3 p0.Kids → X [(gd D4 0), (gd D4 1), .pointer (some ⟨b1, 0, none⟩), .pointer (some ⟨b2, 0, none⟩), .bool false, (gd D4 5), (gd D4 6), .int .i64 x10, (gd D4 8), (gd D4 9), (gd D4 10), (gd D4 11), (gd D4 12), (gd D4 13), (gd D4 14), (gd D4 15), (gd D4 16), (gd D4 17), (gd D4 18), (gd D4 19), (gd D4 20), (gd D4 21), (gd D4 22), (gd D4 23), (gd D4 24), (gd D4 25), (gd D4 26), (gd D4 27), (gd D4 28), (gd D4 29), (gd D4 30), (gd D4 31), (gd D4 32), (gd D4 33), (gd D4 34), (gd D4 35), (gd D4 36), (gd D4 37), (gd D4 38), (gd D4 39), (gd D4 40), (gd D4 41), (gd D4 42), (gd D4 43), (gd D4 44), (gd D4 45), (gd D4 46), (gd D4 47), (gd D4 48), (gd D4 49), (gd D4 50), (gd D4 51), (gd D4 52), (gd D4 53), (gd D4 54), (gd D4 55), (gd D4 56), (gd D4 57), (gd D4 58), (gd D4 59), (gd D4 60), (gd D4 61), (gd D4 62), (gd D4 63), (gd D4 64), (gd D4 65), (gd D4 66), (gd D4 67), (gd D4 68), (gd D4 69), (gd D4 70), (gd D4 71), (gd D4 72), (gd D4 73), (gd D4 74), (gd D4 75), (gd D4 76), (gd D4 77), (gd D4 78), (gd D4 79), (gd D4 80), (gd D4 81), (gd D4 82), (gd D4 83), (gd D4 84), (gd D4 85), (gd D4 86), (gd D4 87), (gd D4 88), (gd D4 89), (gd D4 90), (gd D4 91), (gd D4 92), (gd D4 93), (gd D4 94), (gd D4 95), (gd D4 96), (gd D4 97), (gd D4 98), (gd D4 99), (gd D4 100), (gd D4 101), (gd D4 102), (gd D4 103), (gd D4 104), (gd D4 105), (gd D4 106), (gd D4 107), (gd D4 108), (gd D4 109), (gd D4 110), (gd D4 111), (gd D4 112), (gd D4 113), (gd D4 114), (gd D4 115), (gd D4 116)] [] w') → X D4 ds wz) FUEL (fun X h => kc (by kernel_rfl) rfl (h I2 0 _ hf s kk e4 e5 e6 e1 e2 e3)) (fun _ _ _ hJ => hJ (fun _ _ _ => False) (by intro I3 x10 w8 hf s kk e4 e5 e6 e1 e2 e3; exact noneS hf)) ?_
 intro X4 hX4
 refine fun n3 D4 _ _ hJ => hJ (X4 n3) ?_
 clear s
 intro I3 x10 w8 hf s kk e4 e5 e6 e1 e2 e3
 refine hX4 _ _ _ _ ?_
 replace hf : g20_l4B p0 p1 (g20_l4 p0 p1 n3) x10 = some r := hf
 generalize hrec3 : g20_l4 p0 p1 n3 = rec3 at hf
 unfold g20_l4B at hf
 refine WPK.seq ?_
 refine WPK.seq ?_
 refine WPK.region ?_
 refine RW.seg hT 5 [.slice A3 p0.Kids.length u3] [] [.int .i64 x10, .pointer (some ⟨b1, 3, none⟩), .slice A3 p0.Kids.length u3, .int .i64 (p0.Kids.length : Int), .bool (decide (x10 < (p0.Kids.length : Int)))] [.cell ⟨b1, 3, none⟩ (.slice A3 p0.Kids.length u3)] (by kernel_rfl) (s.cell (i := 1) (off := 3) rfl rfl) ?_
 refine RW.nil ?_
 by_cases h13 : x10 < (p0.Kids.length : Int)
 have hf := iteT h13 hf
 refine WPK.condT (Eq.trans (b := .bool (decide (x10 < (p0.Kids.length : Int)))) (by kernel_rfl) (bo_t h13)) ?_
 refine WPK.skip ?_
 refine WPK.seq ?_
 refine WPK.block ?_
 refine WPK.seq ?_
 have e3S3 := e3
 have e4S3 := e4
 have e5S3 := e5
 have e6S3 := e6
 have e1S3 := e1
 have e2S3 := e2
 have kS3 : Kp I3 w8 I3 w8 := Kp.refl
 refine WPK.drawM (fun w' => ∃ I' : Nat → Prop, St w1 M I' ((.blk b2 (.cells #[.bool p1.Leaf, .slice A4 p1.Pairs.length u4, .slice A5 p1.Keys.length u5, .slice A6 p1.Kids.length u6] 26 (0, 0))) :: (.blk b1 (.cells #[.bool p0.Leaf, .slice A1 p0.Pairs.length u1, .slice A2 p0.Keys.length u2, .slice A3 p0.Kids.length u3] 26 (0, 0))) :: F) w' ∧ Kp I3 w8 I' w') 11 [0, 1, 0, 7, 15, 0, 32, 0, 224, 480, 1023] (by kernel_rfl) (by kernel_rfl) ?_
 intro ht3 w9 hd3
 have k5 := Kp.dr s hd3
 replace s := s.dr hd3
 replace e3 := e3.st k5
 replace e4 := e4.st k5
 replace e5 := e5.st k5
 replace e6 := e6.st k5
 replace e1 := e1.st k5
 replace e2 := e2.st k5
 replace kk := kk.trans k5
 replace kS3 := kS3.trans k5
 obtain ⟨x11, hx7, hf⟩ := bindS hf
 obtain ⟨h14, hx7⟩ := getS hx7
 obtain ⟨b7, o5, rfl⟩ := Elems.opn e3 hx7
 obtain ⟨cs15, hr15, ha7, hb7⟩ := Elems.getI e3S3 hx7
 obtain rfl : cs15 = [.int .i64 x11] := hr15
 obtain ⟨x12, hx8, hf⟩ := bindS hf
 obtain ⟨h15, hx8⟩ := getS hx8
 obtain ⟨b8, o6, rfl⟩ := Elems.opn e6 hx8
 obtain ⟨cs16, hr16, ha8, hb8⟩ := Elems.getI e6S3 hx8
 obtain rfl : cs16 = [.int .i64 x12] := hr16
 refine RD.segM hT ht3 (by kernel_rfl) [0, 1, 2, 3, 4, 5, 6, 7, 8, 9, 10] [.slice (some ⟨b7, o5, none⟩) p0.Kids.length u3, .int .i64 x11, .slice (some ⟨b8, o6, none⟩) p1.Kids.length u6, .int .i64 x12] [(116, .bool (decide (x11 ≠ x12)))] [.pointer (some ⟨b1, 3, none⟩), .slice (some ⟨b7, o5, none⟩) p0.Kids.length u3, .int .i64 x10, .pointer (some ⟨b7, o5 + x10.toNat * 1, none⟩), .int .i64 x11, .pointer (some ⟨b2, 3, none⟩), .slice (some ⟨b8, o6, none⟩) p1.Kids.length u6, .int .i64 x10, .pointer (some ⟨b8, o6 + x10.toNat * 1, none⟩), .int .i64 x12, .bool (decide (x11 ≠ x12))] [.cell ⟨b1, 3, none⟩ (.slice (some ⟨b7, o5, none⟩) p0.Kids.length u3), .idx x10 p0.Kids.length, .cell ⟨b7, o5 + x10.toNat * 1, none⟩ (.int .i64 x11), .cell ⟨b2, 3, none⟩ (.slice (some ⟨b8, o6, none⟩) p1.Kids.length u6), .idx x10 p1.Kids.length, .cell ⟨b8, o6 + x10.toNat * 1, none⟩ (.int .i64 x12), .veq (.bool (x11 != x12)) (.bool (decide (x11 ≠ x12)))] (by kernel_rfl) (by rintro w' ⟨I', s, k⟩; have e3 := e3S3.st k; have e4 := e4S3.st k; have e5 := e5S3.st k; have e6 := e6S3.st k; have e1 := e1S3.st k; have e2 := e2S3.st k; have ha7 := ha7.st k hb7; have ha8 := ha8.st k hb8; exact ⟨s.cell (i := 1) (off := 3) rfl rfl, h14, ha7 0 _ rfl, s.cell (i := 0) (off := 3) rfl rfl, h15, ha8 0 _ rfl, ne_v⟩) ⟨_, s.pick [0, 1] 2 rfl, kS3⟩ ?_
 refine RD.done (by kernel_rfl) ?_
 by_cases h16 : x11 ≠ x12
 have hf := iteT h16 hf
 refine WPK.condT (Eq.trans (b := .bool (decide (x11 ≠ x12))) (by kernel_rfl) (bo_t h16)) ?_
 refine WPK.seq ?_
 refine WPK.region ?_
 refine RW.seg hT 1 [] [] [.bool false] [] (by kernel_rfl) (trivial) ?_
 refine RW.nil ?_
 refine WPK.ret (blockQ.ret (blockQ.ret (?_)))
 obtain rfl := someS hf
 refine Fin.of (rs := [.tmp 4]) hT [] (.bool false) [] rfl (by kernel_rfl) (trivial) ?_
 replace s := s.pick [] 2 rfl
 exact fun X h => vc rfl (h I3 _ s kk)
 have hf := iteF h16 hf
 refine WPK.condF (Eq.trans (b := .bool (decide (x11 ≠ x12))) (by kernel_rfl) (bo_f h16)) ?_
 refine WPK.skip ?_
 refine WPK.region ?_
 refine RW.seg hT 3 [] [] [.int .i64 x10, .int .i64 (IntKind.i64.wrap (x10 + 1)), .int .i64 (IntKind.i64.wrap (x10 + 1))] [] (by kernel_rfl) (trivial) ?_
 refine RW.nil ?_
 subst hrec3
 exact ⟨n3, Nat.le_refl _, fun X h => kc (by kernel_rfl) rfl (h I3 (IntKind.i64.wrap (x10 + 1)) _ hf s kk e4 e5 e6 e1 e2 e3)⟩
 have hf := iteF h13 hf
 refine WPK.condF (Eq.trans (b := .bool (decide (x10 < (p0.Kids.length : Int)))) (by kernel_rfl) (bo_f h13)) ?_
 refine WPK.exit (blockQ.same ?_)
 refine WPK.seq ?_
 refine WPK.region ?_
 refine RW.seg hT 1 [] [] [.bool true] [] (by kernel_rfl) (trivial) ?_
 refine RW.nil ?_
 refine WPK.ret (?_)
 obtain rfl := someS hf
 refine Fin.of (rs := [.tmp 4]) hT [] (.bool true) [] rfl (by kernel_rfl) (trivial) ?_
 replace s := s.pick [] 2 rfl
 exact fun X h => vc rfl (h I3 _ s kk)
 refine WPK.region ?_
 refine RW.seg hT 5 [.bool p0.Leaf, .bool p1.Leaf] [(12, .bool (decide (p0.Leaf ≠ p1.Leaf)))] [.pointer (some ⟨b1, 0, none⟩), .bool p0.Leaf, .pointer (some ⟨b2, 0, none⟩), .bool p1.Leaf, .bool (decide (p0.Leaf ≠ p1.Leaf))] [.cell ⟨b1, 0, none⟩ (.bool p0.Leaf), .cell ⟨b2, 0, none⟩ (.bool p1.Leaf), .veq (.bool (!(p0.Leaf == p1.Leaf))) (.bool (decide (p0.Leaf ≠ p1.Leaf)))] (by kernel_rfl) (⟨s.cell (i := 1) (off := 0) rfl rfl, s.cell (i := 0) (off := 0) rfl rfl, bne_v⟩) ?_
 by_cases h17 : p0.Leaf ≠ p1.Leaf
 have hf := iteT h17 hf
 refine RW.seg hT 27 [] [(13, .bool true)] [.bool true, undef, undef, undef, undef, undef, undef, undef, .bool true, .bool true, undef, undef, undef, undef, undef, undef, undef, .bool true, .bool true, undef, undef, undef, undef, undef, undef, undef, .bool true] [.veq (.bool (decide (p0.Leaf ≠ p1.Leaf))) (.bool true)] (by kernel_rfl) (bo_t h17) ?_
 refine RW.nil ?_
 exact fun X h => kc (by kernel_rfl) rfl (h true hf)
 have hf := iteF h17 hf
 refine RW.seg hT 9 [.slice A1 p0.Pairs.length u1, .slice A4 p1.Pairs.length u4] [(13, .bool false), (20, .bool (decide ((p0.Pairs.length : Int) ≠ (p1.Pairs.length : Int))))] [.bool false, .pointer (some ⟨b1, 1, none⟩), .slice A1 p0.Pairs.length u1, .int .i64 (p0.Pairs.length : Int), .pointer (some ⟨b2, 1, none⟩), .slice A4 p1.Pairs.length u4, .int .i64 (p1.Pairs.length : Int), .bool (decide ((p0.Pairs.length : Int) ≠ (p1.Pairs.length : Int))), .bool (decide ((p0.Pairs.length : Int) ≠ (p1.Pairs.length : Int)))] [.veq (.bool (decide (p0.Leaf ≠ p1.Leaf))) (.bool false), .cell ⟨b1, 1, none⟩ (.slice A1 p0.Pairs.length u1), .cell ⟨b2, 1, none⟩ (.slice A4 p1.Pairs.length u4), .veq (.bool ((p0.Pairs.length : Int) != (p1.Pairs.length : Int))) (.bool (decide ((p0.Pairs.length : Int) ≠ (p1.Pairs.length : Int))))] (by kernel_rfl) (⟨bo_f h17, s.cell (i := 1) (off := 1) rfl rfl, s.cell (i := 0) (off := 1) rfl rfl, ne_v⟩) ?_
 by_cases h18 : (p0.Pairs.length : Int) ≠ (p1.Pairs.length : Int)
 have hf := iteT h18 hf
 refine RW.seg hT 18 [] [(22, .bool true)] [.bool true, undef, undef, undef, undef, undef, undef, undef, .bool true, .bool true, undef, undef, undef, undef, undef, undef, undef, .bool true] [.veq (.bool (decide ((p0.Pairs.length : Int) ≠ (p1.Pairs.length : Int)))) (.bool true)] (by kernel_rfl) (bo_t h18) ?_
 refine RW.nil ?_
 exact fun X h => kc (by kernel_rfl) rfl (h true hf)
 have hf := iteF h18 hf
 refine RW.seg hT 9 [.slice A2 p0.Keys.length u2, .slice A5 p1.Keys.length u5] [(22, .bool false), (29, .bool (decide ((p0.Keys.length : Int) ≠ (p1.Keys.length : Int))))] [.bool false, .pointer (some ⟨b1, 2, none⟩), .slice A2 p0.Keys.length u2, .int .i64 (p0.Keys.length : Int), .pointer (some ⟨b2, 2, none⟩), .slice A5 p1.Keys.length u5, .int .i64 (p1.Keys.length : Int), .bool (decide ((p0.Keys.length : Int) ≠ (p1.Keys.length : Int))), .bool (decide ((p0.Keys.length : Int) ≠ (p1.Keys.length : Int)))] [.veq (.bool (decide ((p0.Pairs.length : Int) ≠ (p1.Pairs.length : Int)))) (.bool false), .cell ⟨b1, 2, none⟩ (.slice A2 p0.Keys.length u2), .cell ⟨b2, 2, none⟩ (.slice A5 p1.Keys.length u5), .veq (.bool ((p0.Keys.length : Int) != (p1.Keys.length : Int))) (.bool (decide ((p0.Keys.length : Int) ≠ (p1.Keys.length : Int))))] (by kernel_rfl) (⟨bo_f h18, s.cell (i := 1) (off := 2) rfl rfl, s.cell (i := 0) (off := 2) rfl rfl, ne_v⟩) ?_
 by_cases h19 : (p0.Keys.length : Int) ≠ (p1.Keys.length : Int)
 have hf := iteT h19 hf
 refine RW.seg hT 9 [] [(31, .bool true)] [.bool true, undef, undef, undef, undef, undef, undef, undef, .bool true] [.veq (.bool (decide ((p0.Keys.length : Int) ≠ (p1.Keys.length : Int)))) (.bool true)] (by kernel_rfl) (bo_t h19) ?_
 refine RW.nil ?_
 exact fun X h => kc (by kernel_rfl) rfl (h true hf)
 have hf := iteF h19 hf
 refine RW.seg hT 9 [.slice A3 p0.Kids.length u3, .slice A6 p1.Kids.length u6] [(31, .bool false), (38, .bool (decide ((p0.Kids.length : Int) ≠ (p1.Kids.length : Int))))] [.bool false, .pointer (some ⟨b1, 3, none⟩), .slice A3 p0.Kids.length u3, .int .i64 (p0.Kids.length : Int), .pointer (some ⟨b2, 3, none⟩), .slice A6 p1.Kids.length u6, .int .i64 (p1.Kids.length : Int), .bool (decide ((p0.Kids.length : Int) ≠ (p1.Kids.length : Int))), .bool (decide ((p0.Kids.length : Int) ≠ (p1.Kids.length : Int)))] [.veq (.bool (decide ((p0.Keys.length : Int) ≠ (p1.Keys.length : Int)))) (.bool false), .cell ⟨b1, 3, none⟩ (.slice A3 p0.Kids.length u3), .cell ⟨b2, 3, none⟩ (.slice A6 p1.Kids.length u6), .veq (.bool ((p0.Kids.length : Int) != (p1.Kids.length : Int))) (.bool (decide ((p0.Kids.length : Int) ≠ (p1.Kids.length : Int))))] (by kernel_rfl) (⟨bo_f h19, s.cell (i := 1) (off := 3) rfl rfl, s.cell (i := 0) (off := 3) rfl rfl, ne_v⟩) ?_
 refine RW.nil ?_
 exact fun X h => kc (by kernel_rfl) rfl (h (decide ((p0.Kids.length : Int) ≠ (p1.Kids.length : Int))) hf)
theorem c7 {w1 w : World} {M I : Nat → Prop} {F : List It} (p0 : T_api_Node) (p1 : T_api_Node) (p2 : T_api_Node) (p3 : (List Int)) (A1 : Option Addr) (u1 : Nat) (A2 : Option Addr) (u2 : Nat) (A3 : Option Addr) (u3 : Nat) (A4 : Option Addr) (u4 : Nat) (A5 : Option Addr) (u5 : Nat) (A6 : Option Addr) (u6 : Nat) (A7 : Option Addr) (u7 : Nat) (A8 : Option Addr) (u8 : Nat) (A9 : Option Addr) (u9 : Nat) (A10 : Option Addr) (u10 : Nat) (hc1 : (p0.Pairs.length ≤ u1 ∧ u1 ≤ 9223372036854775807)) (e1 : Elems rp_T_api_Pair I w A1 p0.Pairs) (hc2 : (p0.Keys.length ≤ u2 ∧ u2 ≤ 9223372036854775807)) (e2 : Elems (Rp.slice (Rp.int .u8)) I w A2 p0.Keys) (hc3 : (p0.Kids.length ≤ u3 ∧ u3 ≤ 9223372036854775807)) (e3 : Elems (Rp.int .i64) I w A3 p0.Kids) (hc4 : (p1.Pairs.length ≤ u4 ∧ u4 ≤ 9223372036854775807)) (e4 : Elems rp_T_api_Pair I w A4 p1.Pairs) (hc5 : (p1.Keys.length ≤ u5 ∧ u5 ≤ 9223372036854775807)) (e5 : Elems (Rp.slice (Rp.int .u8)) I w A5 p1.Keys) (hc6 : (p1.Kids.length ≤ u6 ∧ u6 ≤ 9223372036854775807)) (e6 : Elems (Rp.int .i64) I w A6 p1.Kids) (hc7 : (p2.Pairs.length ≤ u7 ∧ u7 ≤ 9223372036854775807)) (e7 : Elems rp_T_api_Pair I w A7 p2.Pairs) (hc8 : (p2.Keys.length ≤ u8 ∧ u8 ≤ 9223372036854775807)) (e8 : Elems (Rp.slice (Rp.int .u8)) I w A8 p2.Keys) (hc9 : (p2.Kids.length ≤ u9 ∧ u9 ≤ 9223372036854775807)) (e9 : Elems (Rp.int .i64) I w A9 p2.Kids) (hc10 : (p3.length ≤ u10 ∧ u10 ≤ 9223372036854775807)) (e10 : Elems (Rp.int .u8) I w A10 p3) (s : St w1 M I (F) w) {r : Bool} (hf : g7 p0 p1 p2 p3 = some r) :
   Ret Try.prog 7 [.agg #[.bool p0.Leaf, .slice A1 p0.Pairs.length u1, .slice A2 p0.Keys.length u2, .slice A3 p0.Kids.length u3], .agg #[.bool p1.Leaf, .slice A4 p1.Pairs.length u4, .slice A5 p1.Keys.length u5, .slice A6 p1.Kids.length u6], .agg #[.bool p2.Leaf, .slice A7 p2.Pairs.length u7, .slice A8 p2.Keys.length u8, .slice A9 p2.Kids.length u9], .slice A10 p3.length u10] w fun v wz => ∀ X : Value → World → Prop, (∀ (I' : Nat → Prop) (w' : World), St w1 M I' (F) w' → Kp I w I' w' → X (.bool r) w') → X v wz := by
 have kk : Kp I w I w := Kp.refl
 unfold g7 at hf
 refine Ret.of Try.func7 rfl ?_
 refine WPK.seq ?_
 refine WPK.region ?_
 refine RW.op (by kernel_rfl) (OK.new hT (f := fun b => .pointer (some ⟨b, 0, none⟩)) (cs := [.bool p0.Leaf, .slice A1 p0.Pairs.length u1, .slice A2 p0.Keys.length u2, .slice A3 p0.Kids.length u3]) (e := 26) (c := .tt) s (by kernel_rfl) trivial ?_)
 clear s
 rintro w2 b1 s k1 -
 replace e1 := e1.st k1
 replace e2 := e2.st k1
 replace e3 := e3.st k1
 replace e4 := e4.st k1
 replace e5 := e5.st k1
 replace e6 := e6.st k1
 replace e7 := e7.st k1
 replace e8 := e8.st k1
 replace e9 := e9.st k1
 replace e10 := e10.st k1
 replace kk := kk.trans k1
 refine RW.op (by kernel_rfl) (OK.new hT (f := fun b => .pointer (some ⟨b, 0, none⟩)) (cs := [.bool p1.Leaf, .slice A4 p1.Pairs.length u4, .slice A5 p1.Keys.length u5, .slice A6 p1.Kids.length u6]) (e := 26) (c := .tt) s (by kernel_rfl) trivial ?_)
 clear s
 rintro w3 b2 s k2 -
 replace e1 := e1.st k2
 replace e2 := e2.st k2
 replace e3 := e3.st k2
 replace e4 := e4.st k2
 replace e5 := e5.st k2
 replace e6 := e6.st k2
 replace e7 := e7.st k2
 replace e8 := e8.st k2
 replace e9 := e9.st k2
 replace e10 := e10.st k2
 replace kk := kk.trans k2
 refine RW.op (by kernel_rfl) (OK.new hT (f := fun b => .pointer (some ⟨b, 0, none⟩)) (cs := [.bool p2.Leaf, .slice A7 p2.Pairs.length u7, .slice A8 p2.Keys.length u8, .slice A9 p2.Kids.length u9]) (e := 26) (c := .tt) s (by kernel_rfl) trivial ?_)
 clear s
 rintro w4 b3 s k3 -
 replace e1 := e1.st k3
 replace e2 := e2.st k3
 replace e3 := e3.st k3
 replace e4 := e4.st k3
 replace e5 := e5.st k3
 replace e6 := e6.st k3
 replace e7 := e7.st k3
 replace e8 := e8.st k3
 replace e9 := e9.st k3
 replace e10 := e10.st k3
 replace kk := kk.trans k3
 refine RW.seg hT 1 [] [] [.bool false] [] (by kernel_rfl) (trivial) ?_
 refine RW.nil ?_
 refine WPK.seq ?_
 refine WPK.seq ?_
 refine WPK.cut' (Kn fun D1 ds wz => ∀ X : Kont, (∀ (I1 : Nat → Prop) (x1 : Bool) (w' : World), g7_j1 p0 p1 p2 p3 x1 = some r → St w1 M I1 ((.blk b3 (.cells #[.bool p2.Leaf, .slice A7 p2.Pairs.length u7, .slice A8 p2.Keys.length u8, .slice A9 p2.Kids.length u9] 26 (0, 0))) :: (.blk b2 (.cells #[.bool p1.Leaf, .slice A4 p1.Pairs.length u4, .slice A5 p1.Keys.length u5, .slice A6 p1.Kids.length u6] 26 (0, 0))) :: (.blk b1 (.cells #[.bool p0.Leaf, .slice A1 p0.Pairs.length u1, .slice A2 p0.Keys.length u2, .slice A3 p0.Kids.length u3] 26 (0, 0))) :: F) w' → Kp I w I1 w' → Elems (Rp.int .u8) I1 w' A10 p3 → Elems rp_T_api_Pair I1 w' A7 p2.Pairs → Elems (Rp.slice (Rp.int .u8)) I1 w' A8 p2.Keys → Elems (Rp.int .i64) I1 w' A9 p2.Kids → Elems rp_T_api_Pair I1 w' A4 p1.Pairs → Elems (Rp.slice (Rp.int .u8)) I1 w' A5 p1.Keys → Elems (Rp.int .i64) I1 w' A6 p1.Kids → Elems rp_T_api_Pair I1 w' A1 p0.Pairs → Elems (Rp.slice (Rp.int .u8)) I1 w' A2 p0.Keys → Elems (Rp.int .i64) I1 w' A3 p0.Kids → X [(gd D1 0), (gd D1 1), (gd D1 2), .slice A10 p3.length u10, .pointer (some ⟨b1, 0, none⟩), .pointer (some ⟨b2, 0, none⟩), .pointer (some ⟨b3, 0, none⟩), (gd D1 7), .bool false, undef, undef, undef, undef, undef, undef, undef, undef, undef, undef, undef, undef, (gd D1 21), (gd D1 22), (gd D1 23), (gd D1 24), (gd D1 25), (gd D1 26), (gd D1 27), (gd D1 28), (gd D1 29), (gd D1 30), (gd D1 31), (gd D1 32), (gd D1 33), (gd D1 34), .bool x1, undef, undef, undef, undef, undef, undef, undef, undef, undef, undef, undef, undef, undef, undef, undef, undef, undef, undef, undef, undef, undef, undef, undef, undef, undef, undef, undef, undef, undef, undef, undef, undef, undef, undef, undef, undef, undef, undef, undef, undef, undef, undef, undef, undef, undef, undef, undef, undef, undef, undef, undef, undef, undef, undef, undef, undef, undef] [] w') → X D1 ds wz) ?_ ?_
 intro X1 hX1
 refine fun D1 _ _ hJ => hJ X1 ?_
 clear s
 intro I1 x1 w5 hf s kk e10 e7 e8 e9 e4 e5 e6 e1 e2 e3
 refine hX1 _ _ _ ?_
 unfold g7_j1 at hf
 by_cases h1 : x1 = true
 have hf := iteT h1 hf
 refine WPK.condT (Eq.trans (b := .bool x1) (by kernel_rfl) (b_t h1)) ?_
 refine WPK.seq ?_
 refine WPK.region ?_
 obtain ⟨x2, hx1, hf⟩ := bindS hf
 refine RW.op (by kernel_rfl) (OK.call' en11 (by kernel_rfl) (c11 (F := (.blk b3 (.cells #[.bool p2.Leaf, .slice A7 p2.Pairs.length u7, .slice A8 p2.Keys.length u8, .slice A9 p2.Kids.length u9] 26 (0, 0))) :: (.blk b2 (.cells #[.bool p1.Leaf, .slice A4 p1.Pairs.length u4, .slice A5 p1.Keys.length u5, .slice A6 p1.Kids.length u6] 26 (0, 0))) :: (.blk b1 (.cells #[.bool p0.Leaf, .slice A1 p0.Pairs.length u1, .slice A2 p0.Keys.length u2, .slice A3 p0.Kids.length u3] 26 (0, 0))) :: F) s hx1) ?_)
 intro X2 hX2
 refine fun _ _ hJ => hJ X2 ?_
 clear s
 intro I2 w6 s k4
 refine hX2 _ _ ?_
 replace e10 := e10.st k4
 replace e7 := e7.st k4
 replace e8 := e8.st k4
 replace e9 := e9.st k4
 replace e4 := e4.st k4
 replace e5 := e5.st k4
 replace e6 := e6.st k4
 replace e1 := e1.st k4
 replace e2 := e2.st k4
 replace e3 := e3.st k4
 replace kk := kk.trans k4
 refine RW.seg hT 1 [] [] [.bool x2] [] (by kernel_rfl) (trivial) ?_
 refine RW.nil ?_
 refine WPK.ret (?_)
 obtain rfl := someS hf
 refine Fin.of (rs := [.tmp 8]) hT [] (.bool x2) [] rfl (by kernel_rfl) (trivial) ?_
 replace s := s.pick [] 3 rfl
 exact fun X h => vc rfl (h I2 _ s kk)
 have hf := iteF h1 hf
 refine WPK.condF (Eq.trans (b := .bool x1) (by kernel_rfl) (b_f h1)) ?_
 refine WPK.skip ?_
 refine WPK.seq ?_
 refine WPK.region ?_
 refine RW.seg hT 1 [.agg #[.bool p0.Leaf, .slice A1 p0.Pairs.length u1, .slice A2 p0.Keys.length u2, .slice A3 p0.Kids.length u3]] [] [.agg #[.bool p0.Leaf, .slice A1 p0.Pairs.length u1, .slice A2 p0.Keys.length u2, .slice A3 p0.Kids.length u3]] [.cells ⟨b1, 0, none⟩ [.bool p0.Leaf, .slice A1 p0.Pairs.length u1, .slice A2 p0.Keys.length u2, .slice A3 p0.Kids.length u3] 4] (by kernel_rfl) (s.cells (i := 2) rfl rfl rfl) ?_
 obtain ⟨x3, hx2, hf⟩ := bindS hf
 refine RW.op (by kernel_rfl) (OK.call' en35 (by kernel_rfl) (c35 (F := (.blk b3 (.cells #[.bool p2.Leaf, .slice A7 p2.Pairs.length u7, .slice A8 p2.Keys.length u8, .slice A9 p2.Kids.length u9] 26 (0, 0))) :: (.blk b2 (.cells #[.bool p1.Leaf, .slice A4 p1.Pairs.length u4, .slice A5 p1.Keys.length u5, .slice A6 p1.Kids.length u6] 26 (0, 0))) :: (.blk b1 (.cells #[.bool p0.Leaf, .slice A1 p0.Pairs.length u1, .slice A2 p0.Keys.length u2, .slice A3 p0.Kids.length u3] 26 (0, 0))) :: F) p0 A1 u1 A2 u2 A3 u3 hc1 e1 hc2 e2 hc3 e3 s hx2) ?_)
 intro X3 hX3
 refine fun _ _ hJ => hJ X3 ?_
 clear s
 intro I3 A11 u11 A12 u12 A13 u13 A14 u14 A15 u15 A16 u16 A17 u17 w7 s k5 hc11 e11 hc12 e12 hc13 e13 hc14 e14 hc15 e15 hc16 e16 hc17 e17
 refine hX3 _ _ ?_
 replace e10 := e10.st k5
 replace e1 := e1.st k5
 replace e2 := e2.st k5
 replace e3 := e3.st k5
 replace e7 := e7.st k5
 replace e8 := e8.st k5
 replace e9 := e9.st k5
 replace e4 := e4.st k5
 replace e5 := e5.st k5
 replace e6 := e6.st k5
 replace kk := kk.trans k5
 refine RW.seg hT 5 [] [] [.tuple #[.agg #[.bool x3.1.Leaf, .slice A11 x3.1.Pairs.length u11, .slice A12 x3.1.Keys.length u12, .slice A13 x3.1.Kids.length u13], .slice A14 x3.2.1.length u14, .agg #[.bool x3.2.2.1.Leaf, .slice A15 x3.2.2.1.Pairs.length u15, .slice A16 x3.2.2.1.Keys.length u16, .slice A17 x3.2.2.1.Kids.length u17], .int .i64 x3.2.2.2], .agg #[.bool x3.1.Leaf, .slice A11 x3.1.Pairs.length u11, .slice A12 x3.1.Keys.length u12, .slice A13 x3.1.Kids.length u13], .slice A14 x3.2.1.length u14, .agg #[.bool x3.2.2.1.Leaf, .slice A15 x3.2.2.1.Pairs.length u15, .slice A16 x3.2.2.1.Keys.length u16, .slice A17 x3.2.2.1.Kids.length u17], .int .i64 x3.2.2.2] [] (by kernel_rfl) (trivial) ?_
 refine RW.op (by kernel_rfl) (OK.new hT (f := fun b => .pointer (some ⟨b, 0, none⟩)) (cs := [.bool false, .slice none 0 0, .slice none 0 0, .slice none 0 0]) (e := 26) (c := .tt) s (by kernel_rfl) trivial ?_)
 clear s
 rintro w8 b4 s k6 -
 replace e10 := e10.st k6
 replace e11 := e11.st k6
 replace e12 := e12.st k6
 replace e13 := e13.st k6
 replace e14 := e14.st k6
 replace e15 := e15.st k6
 replace e16 := e16.st k6
 replace e17 := e17.st k6
 replace e1 := e1.st k6
 replace e2 := e2.st k6
 replace e3 := e3.st k6
 replace e7 := e7.st k6
 replace e8 := e8.st k6
 replace e9 := e9.st k6
 replace e4 := e4.st k6
 replace e5 := e5.st k6
 replace e6 := e6.st k6
 replace kk := kk.trans k6
 refine RW.op (by kernel_rfl) (OK.new hT (f := fun b => .pointer (some ⟨b, 0, none⟩)) (cs := [.bool false, .slice none 0 0, .slice none 0 0, .slice none 0 0]) (e := 26) (c := .tt) s (by kernel_rfl) trivial ?_)
 clear s
 rintro w9 b5 s k7 -
 replace e10 := e10.st k7
 replace e11 := e11.st k7
 replace e12 := e12.st k7
 replace e13 := e13.st k7
 replace e14 := e14.st k7
 replace e15 := e15.st k7
 replace e16 := e16.st k7
 replace e17 := e17.st k7
 replace e1 := e1.st k7
 replace e2 := e2.st k7
 replace e3 := e3.st k7
 replace e7 := e7.st k7
 replace e8 := e8.st k7
 replace e9 := e9.st k7
 replace e4 := e4.st k7
 replace e5 := e5.st k7
 replace e6 := e6.st k7
 replace kk := kk.trans k7
 refine RW.op (by kernel_rfl) (OK.store hT (i := 1) (b := b4) (off := 0) (n := 4) (vs := [.bool x3.1.Leaf, .slice A11 x3.1.Pairs.length u11, .slice A12 x3.1.Keys.length u12, .slice A13 x3.1.Kids.length u13]) (cs := [.bool false, .slice none 0 0, .slice none 0 0, .slice none 0 0]) (e := 26) s (by kernel_rfl) rfl rfl (flat_ok rfl) (Nat.le_of_ble_eq_true rfl) ?_)
 clear s
 rintro w10 s k8 -
 replace e10 := e10.st k8
 replace e11 := e11.st k8
 replace e12 := e12.st k8
 replace e13 := e13.st k8
 replace e14 := e14.st k8
 replace e15 := e15.st k8
 replace e16 := e16.st k8
 replace e17 := e17.st k8
 replace e1 := e1.st k8
 replace e2 := e2.st k8
 replace e3 := e3.st k8
 replace e7 := e7.st k8
 replace e8 := e8.st k8
 replace e9 := e9.st k8
 replace e4 := e4.st k8
 replace e5 := e5.st k8
 replace e6 := e6.st k8
 replace kk := kk.trans k8
 refine RW.seg hT 1 [] [] [.slice A14 x3.2.1.length u14] [] (by kernel_rfl) (trivial) ?_
 refine RW.op (by kernel_rfl) (OK.store hT (i := 0) (b := b5) (off := 0) (n := 4) (vs := [.bool x3.2.2.1.Leaf, .slice A15 x3.2.2.1.Pairs.length u15, .slice A16 x3.2.2.1.Keys.length u16, .slice A17 x3.2.2.1.Kids.length u17]) (cs := [.bool false, .slice none 0 0, .slice none 0 0, .slice none 0 0]) (e := 26) s (by kernel_rfl) rfl rfl (flat_ok rfl) (Nat.le_of_ble_eq_true rfl) ?_)
 clear s
 rintro w11 s k9 -
 replace e10 := e10.st k9
 replace e14 := e14.st k9
 replace e11 := e11.st k9
 replace e12 := e12.st k9
 replace e13 := e13.st k9
 replace e15 := e15.st k9
 replace e16 := e16.st k9
 replace e17 := e17.st k9
 replace e1 := e1.st k9
 replace e2 := e2.st k9
 replace e3 := e3.st k9
 replace e7 := e7.st k9
 replace e8 := e8.st k9
 replace e9 := e9.st k9
 replace e4 := e4.st k9
 replace e5 := e5.st k9
 replace e6 := e6.st k9
 replace kk := kk.trans k9
 refine RW.seg hT 1 [] [] [.int .i64 x3.2.2.2] [] (by kernel_rfl) (trivial) ?_
 refine RW.nil ?_
 refine WPK.seq ?_
 refine WPK.region ?_
 refine RW.seg hT 1 [.agg #[.bool p0.Leaf, .slice A1 p0.Pairs.length u1, .slice A2 p0.Keys.length u2, .slice A3 p0.Kids.length u3]] [] [.agg #[.bool p0.Leaf, .slice A1 p0.Pairs.length u1, .slice A2 p0.Keys.length u2, .slice A3 p0.Kids.length u3]] [.cells ⟨b1, 0, none⟩ [.bool p0.Leaf, .slice A1 p0.Pairs.length u1, .slice A2 p0.Keys.length u2, .slice A3 p0.Kids.length u3] 4] (by kernel_rfl) (s.cells (i := 4) rfl rfl rfl) ?_
 obtain ⟨x4, hx3, hf⟩ := bindS hf
 refine RW.op (by kernel_rfl) (OK.call' en36 (by kernel_rfl) (c36 (F := (.blk b5 (.cells #[.bool x3.2.2.1.Leaf, .slice A15 x3.2.2.1.Pairs.length u15, .slice A16 x3.2.2.1.Keys.length u16, .slice A17 x3.2.2.1.Kids.length u17] 26 (0, 0))) :: (.blk b4 (.cells #[.bool x3.1.Leaf, .slice A11 x3.1.Pairs.length u11, .slice A12 x3.1.Keys.length u12, .slice A13 x3.1.Kids.length u13] 26 (0, 0))) :: (.blk b3 (.cells #[.bool p2.Leaf, .slice A7 p2.Pairs.length u7, .slice A8 p2.Keys.length u8, .slice A9 p2.Kids.length u9] 26 (0, 0))) :: (.blk b2 (.cells #[.bool p1.Leaf, .slice A4 p1.Pairs.length u4, .slice A5 p1.Keys.length u5, .slice A6 p1.Kids.length u6] 26 (0, 0))) :: (.blk b1 (.cells #[.bool p0.Leaf, .slice A1 p0.Pairs.length u1, .slice A2 p0.Keys.length u2, .slice A3 p0.Kids.length u3] 26 (0, 0))) :: F) p0 A1 u1 A2 u2 A3 u3 hc1 e1 hc2 e2 hc3 e3 s hx3) ?_)
 intro X4 hX4
 refine fun _ _ hJ => hJ X4 ?_
 clear s
 intro I4 A18 n1 u18 cl1 A19 n2 u19 cl2 A20 n3 u20 cl3 A21 n4 u21 cl4 A22 n5 u22 cl5 A23 n6 u23 cl6 A24 n7 u24 cl7 w12 s k10 hn1 rp1 hn2 rp2 hn3 rp3 hn4 rp4 hn5 rp5 hn6 rp6 hn7 rp7
 refine hX4 _ _ ?_
 replace e10 := e10.st k10
 replace e14 := e14.st k10
 replace e11 := e11.st k10
 replace e12 := e12.st k10
 replace e13 := e13.st k10
 replace e15 := e15.st k10
 replace e16 := e16.st k10
 replace e17 := e17.st k10
 replace e1 := e1.st k10
 replace e2 := e2.st k10
 replace e3 := e3.st k10
 replace e7 := e7.st k10
 replace e8 := e8.st k10
 replace e9 := e9.st k10
 replace e4 := e4.st k10
 replace e5 := e5.st k10
 replace e6 := e6.st k10
 replace kk := kk.trans k10
 rw [hn1] at s
 try rw [hn1]
 obtain ⟨I5, s', k11, hc18, e18⟩ := St.give s (i := 0) rfl rfl rp1
 replace s := s'; clear s'
 replace e10 := e10.st k11
 replace e14 := e14.st k11
 replace e11 := e11.st k11
 replace e12 := e12.st k11
 replace e13 := e13.st k11
 replace e15 := e15.st k11
 replace e16 := e16.st k11
 replace e17 := e17.st k11
 replace e1 := e1.st k11
 replace e2 := e2.st k11
 replace e3 := e3.st k11
 replace e7 := e7.st k11
 replace e8 := e8.st k11
 replace e9 := e9.st k11
 replace e4 := e4.st k11
 replace e5 := e5.st k11
 replace e6 := e6.st k11
 replace rp2 := rp2.st k11
 replace rp3 := rp3.st k11
 replace rp4 := rp4.st k11
 replace rp5 := rp5.st k11
 replace rp6 := rp6.st k11
 replace rp7 := rp7.st k11
 replace kk := kk.trans k11
 rw [hn2] at s
 try rw [hn2]
 obtain ⟨I6, s', k12, hc19, e19⟩ := St.give s (i := 0) rfl rfl rp2
 replace s := s'; clear s'
 replace e10 := e10.st k12
 replace e14 := e14.st k12
 replace e11 := e11.st k12
 replace e12 := e12.st k12
 replace e13 := e13.st k12
 replace e15 := e15.st k12
 replace e16 := e16.st k12
 replace e17 := e17.st k12
 replace e1 := e1.st k12
 replace e2 := e2.st k12
 replace e3 := e3.st k12
 replace e18 := e18.st k12
 replace e7 := e7.st k12
 replace e8 := e8.st k12
 replace e9 := e9.st k12
 replace e4 := e4.st k12
 replace e5 := e5.st k12
 replace e6 := e6.st k12
 replace rp3 := rp3.st k12
 replace rp4 := rp4.st k12
 replace rp5 := rp5.st k12
 replace rp6 := rp6.st k12
 replace rp7 := rp7.st k12
 replace kk := kk.trans k12
 rw [hn3] at s
 try rw [hn3]
 obtain ⟨I7, s', k13, hc20, e20⟩ := St.give s (i := 0) rfl rfl rp3
 replace s := s'; clear s'
 replace e10 := e10.st k13
 replace e14 := e14.st k13
 replace e11 := e11.st k13
 replace e12 := e12.st k13
 replace e13 := e13.st k13
 replace e15 := e15.st k13
 replace e16 := e16.st k13
 replace e17 := e17.st k13
 replace e1 := e1.st k13
 replace e2 := e2.st k13
 replace e3 := e3.st k13
 replace e18 := e18.st k13
 replace e19 := e19.st k13
 replace e7 := e7.st k13
 replace e8 := e8.st k13
 replace e9 := e9.st k13
 replace e4 := e4.st k13
 replace e5 := e5.st k13
 replace e6 := e6.st k13
 replace rp4 := rp4.st k13
 replace rp5 := rp5.st k13
 replace rp6 := rp6.st k13
 replace rp7 := rp7.st k13
 replace kk := kk.trans k13
 rw [hn4] at s
 try rw [hn4]
 obtain ⟨I8, s', k14, hc21, e21⟩ := St.give s (i := 0) rfl rfl rp4
 replace s := s'; clear s'
 replace e10 := e10.st k14
 replace e14 := e14.st k14
 replace e11 := e11.st k14
 replace e12 := e12.st k14
 replace e13 := e13.st k14
 replace e15 := e15.st k14
 replace e16 := e16.st k14
 replace e17 := e17.st k14
 replace e1 := e1.st k14
 replace e2 := e2.st k14
 replace e3 := e3.st k14
 replace e18 := e18.st k14
 replace e19 := e19.st k14
 replace e20 := e20.st k14
 replace e7 := e7.st k14
 replace e8 := e8.st k14
 replace e9 := e9.st k14
 replace e4 := e4.st k14
 replace e5 := e5.st k14
 replace e6 := e6.st k14
 replace rp5 := rp5.st k14
 replace rp6 := rp6.st k14
 replace rp7 := rp7.st k14
 replace kk := kk.trans k14
 rw [hn5] at s
 try rw [hn5]
 obtain ⟨I9, s', k15, hc22, e22⟩ := St.give s (i := 0) rfl rfl rp5
 replace s := s'; clear s'
 replace e10 := e10.st k15
 replace e14 := e14.st k15
 replace e11 := e11.st k15
 replace e12 := e12.st k15
 replace e13 := e13.st k15
 replace e15 := e15.st k15
 replace e16 := e16.st k15
 replace e17 := e17.st k15
 replace e1 := e1.st k15
 replace e2 := e2.st k15
 replace e3 := e3.st k15
 replace e18 := e18.st k15
 replace e19 := e19.st k15
 replace e20 := e20.st k15
 replace e21 := e21.st k15
 replace e7 := e7.st k15
 replace e8 := e8.st k15
 replace e9 := e9.st k15
 replace e4 := e4.st k15
 replace e5 := e5.st k15
 replace e6 := e6.st k15
 replace rp6 := rp6.st k15
 replace rp7 := rp7.st k15
 replace kk := kk.trans k15
 rw [hn6] at s
 try rw [hn6]
 obtain ⟨I10, s', k16, hc23, e23⟩ := St.give s (i := 0) rfl rfl rp6
 replace s := s'; clear s'
 replace e10 := e10.st k16
 replace e14 := e14.st k16
 replace e11 := e11.st k16
 replace e12 := e12.st k16
 replace e13 := e13.st k16
 replace e15 := e15.st k16
 replace e16 := e16.st k16
 replace e17 := e17.st k16
 replace e1 := e1.st k16
 replace e2 := e2.st k16
 replace e3 := e3.st k16
 replace e18 := e18.st k16
 replace e19 := e19.st k16
 replace e20 := e20.st k16
 replace e21 := e21.st k16
 replace e22 := e22.st k16
 replace e7 := e7.st k16
 replace e8 := e8.st k16
 replace e9 := e9.st k16
 replace e4 := e4.st k16
 replace e5 := e5.st k16
 replace e6 := e6.st k16
 replace rp7 := rp7.st k16
 replace kk := kk.trans k16
 rw [hn7] at s
 try rw [hn7]
 obtain ⟨I11, s', k17, hc24, e24⟩ := St.give s (i := 0) rfl rfl rp7
 replace s := s'; clear s'
 replace e10 := e10.st k17
 replace e14 := e14.st k17
 replace e11 := e11.st k17
 replace e12 := e12.st k17
 replace e13 := e13.st k17
 replace e15 := e15.st k17
 replace e16 := e16.st k17
 replace e17 := e17.st k17
 replace e1 := e1.st k17
 replace e2 := e2.st k17
 replace e3 := e3.st k17
 replace e18 := e18.st k17
 replace e19 := e19.st k17
 replace e20 := e20.st k17
 replace e21 := e21.st k17
 replace e22 := e22.st k17
 replace e23 := e23.st k17
 replace e7 := e7.st k17
 replace e8 := e8.st k17
 replace e9 := e9.st k17
 replace e4 := e4.st k17
 replace e5 := e5.st k17
 replace e6 := e6.st k17
 replace kk := kk.trans k17
 refine RW.seg hT 5 [] [] [.tuple #[.agg #[.bool x4.1.Leaf, .slice A18 x4.1.Pairs.length u18, .slice A19 x4.1.Keys.length u19, .slice A20 x4.1.Kids.length u20], .slice A21 x4.2.1.length u21, .agg #[.bool x4.2.2.1.Leaf, .slice A22 x4.2.2.1.Pairs.length u22, .slice A23 x4.2.2.1.Keys.length u23, .slice A24 x4.2.2.1.Kids.length u24], .int .i64 x4.2.2.2], .agg #[.bool x4.1.Leaf, .slice A18 x4.1.Pairs.length u18, .slice A19 x4.1.Keys.length u19, .slice A20 x4.1.Kids.length u20], .slice A21 x4.2.1.length u21, .agg #[.bool x4.2.2.1.Leaf, .slice A22 x4.2.2.1.Pairs.length u22, .slice A23 x4.2.2.1.Keys.length u23, .slice A24 x4.2.2.1.Kids.length u24], .int .i64 x4.2.2.2] [] (by kernel_rfl) (trivial) ?_
 refine RW.op (by kernel_rfl) (OK.new hT (f := fun b => .pointer (some ⟨b, 0, none⟩)) (cs := [.bool false, .slice none 0 0, .slice none 0 0, .slice none 0 0]) (e := 26) (c := .tt) s (by kernel_rfl) trivial ?_)
 clear s
 rintro w13 b6 s k18 -
 replace e10 := e10.st k18
 replace e14 := e14.st k18
 replace e11 := e11.st k18
 replace e12 := e12.st k18
 replace e13 := e13.st k18
 replace e15 := e15.st k18
 replace e16 := e16.st k18
 replace e17 := e17.st k18
 replace e1 := e1.st k18
 replace e2 := e2.st k18
 replace e3 := e3.st k18
 replace e18 := e18.st k18
 replace e19 := e19.st k18
 replace e20 := e20.st k18
 replace e21 := e21.st k18
 replace e22 := e22.st k18
 replace e23 := e23.st k18
 replace e24 := e24.st k18
 replace e7 := e7.st k18
 replace e8 := e8.st k18
 replace e9 := e9.st k18
 replace e4 := e4.st k18
 replace e5 := e5.st k18
 replace e6 := e6.st k18
 replace kk := kk.trans k18
 refine RW.op (by kernel_rfl) (OK.new hT (f := fun b => .pointer (some ⟨b, 0, none⟩)) (cs := [.bool false, .slice none 0 0, .slice none 0 0, .slice none 0 0]) (e := 26) (c := .tt) s (by kernel_rfl) trivial ?_)
 clear s
 rintro w14 b7 s k19 -
 replace e10 := e10.st k19
 replace e14 := e14.st k19
 replace e11 := e11.st k19
 replace e12 := e12.st k19
 replace e13 := e13.st k19
 replace e15 := e15.st k19
 replace e16 := e16.st k19
 replace e17 := e17.st k19
 replace e1 := e1.st k19
 replace e2 := e2.st k19
 replace e3 := e3.st k19
 replace e18 := e18.st k19
 replace e19 := e19.st k19
 replace e20 := e20.st k19
 replace e21 := e21.st k19
 replace e22 := e22.st k19
 replace e23 := e23.st k19
 replace e24 := e24.st k19
 replace e7 := e7.st k19
 replace e8 := e8.st k19
 replace e9 := e9.st k19
 replace e4 := e4.st k19
 replace e5 := e5.st k19
 replace e6 := e6.st k19
 replace kk := kk.trans k19
 refine RW.op (by kernel_rfl) (OK.store hT (i := 1) (b := b6) (off := 0) (n := 4) (vs := [.bool x4.1.Leaf, .slice A18 x4.1.Pairs.length u18, .slice A19 x4.1.Keys.length u19, .slice A20 x4.1.Kids.length u20]) (cs := [.bool false, .slice none 0 0, .slice none 0 0, .slice none 0 0]) (e := 26) s (by kernel_rfl) rfl rfl (flat_ok rfl) (Nat.le_of_ble_eq_true rfl) ?_)
 clear s
 rintro w15 s k20 -
 replace e10 := e10.st k20
 replace e14 := e14.st k20
 replace e11 := e11.st k20
 replace e12 := e12.st k20
 replace e13 := e13.st k20
 replace e15 := e15.st k20
 replace e16 := e16.st k20
 replace e17 := e17.st k20
 replace e1 := e1.st k20
 replace e2 := e2.st k20
 replace e3 := e3.st k20
 replace e18 := e18.st k20
 replace e19 := e19.st k20
 replace e20 := e20.st k20
 replace e21 := e21.st k20
 replace e22 := e22.st k20
 replace e23 := e23.st k20
 replace e24 := e24.st k20
 replace e7 := e7.st k20
 replace e8 := e8.st k20
 replace e9 := e9.st k20
 replace e4 := e4.st k20
 replace e5 := e5.st k20
 replace e6 := e6.st k20
 replace kk := kk.trans k20
 refine RW.seg hT 1 [] [] [.slice A21 x4.2.1.length u21] [] (by kernel_rfl) (trivial) ?_
 refine RW.op (by kernel_rfl) (OK.store hT (i := 0) (b := b7) (off := 0) (n := 4) (vs := [.bool x4.2.2.1.Leaf, .slice A22 x4.2.2.1.Pairs.length u22, .slice A23 x4.2.2.1.Keys.length u23, .slice A24 x4.2.2.1.Kids.length u24]) (cs := [.bool false, .slice none 0 0, .slice none 0 0, .slice none 0 0]) (e := 26) s (by kernel_rfl) rfl rfl (flat_ok rfl) (Nat.le_of_ble_eq_true rfl) ?_)
 clear s
 rintro w16 s k21 -
 replace e10 := e10.st k21
 replace e14 := e14.st k21
 replace e21 := e21.st k21
 replace e11 := e11.st k21
 replace e12 := e12.st k21
 replace e13 := e13.st k21
 replace e15 := e15.st k21
 replace e16 := e16.st k21
 replace e17 := e17.st k21
 replace e1 := e1.st k21
 replace e2 := e2.st k21
 replace e3 := e3.st k21
 replace e18 := e18.st k21
 replace e19 := e19.st k21
 replace e20 := e20.st k21
 replace e22 := e22.st k21
 replace e23 := e23.st k21
 replace e24 := e24.st k21
 replace e7 := e7.st k21
 replace e8 := e8.st k21
 replace e9 := e9.st k21
 replace e4 := e4.st k21
 replace e5 := e5.st k21
 replace e6 := e6.st k21
 replace kk := kk.trans k21
 refine RW.seg hT 1 [] [] [.int .i64 x4.2.2.2] [] (by kernel_rfl) (trivial) ?_
 refine RW.nil ?_
 refine WPK.seq ?_
 refine WPK.region ?_
 refine RW.seg hT 3 [.agg #[.bool p1.Leaf, .slice A4 p1.Pairs.length u4, .slice A5 p1.Keys.length u5, .slice A6 p1.Kids.length u6], .agg #[.bool p2.Leaf, .slice A7 p2.Pairs.length u7, .slice A8 p2.Keys.length u8, .slice A9 p2.Kids.length u9]] [] [.agg #[.bool p1.Leaf, .slice A4 p1.Pairs.length u4, .slice A5 p1.Keys.length u5, .slice A6 p1.Kids.length u6], .slice A10 p3.length u10, .agg #[.bool p2.Leaf, .slice A7 p2.Pairs.length u7, .slice A8 p2.Keys.length u8, .slice A9 p2.Kids.length u9]] [.cells ⟨b2, 0, none⟩ [.bool p1.Leaf, .slice A4 p1.Pairs.length u4, .slice A5 p1.Keys.length u5, .slice A6 p1.Kids.length u6] 4, .cells ⟨b3, 0, none⟩ [.bool p2.Leaf, .slice A7 p2.Pairs.length u7, .slice A8 p2.Keys.length u8, .slice A9 p2.Kids.length u9] 4] (by kernel_rfl) (⟨s.cells (i := 5) rfl rfl rfl, s.cells (i := 4) rfl rfl rfl⟩) ?_
 obtain ⟨x5, hx4, hf⟩ := bindS hf
 refine RW.op (by kernel_rfl) (OK.call' en37 (by kernel_rfl) (c37 (F := (.blk b7 (.cells #[.bool x4.2.2.1.Leaf, .slice A22 x4.2.2.1.Pairs.length u22, .slice A23 x4.2.2.1.Keys.length u23, .slice A24 x4.2.2.1.Kids.length u24] 26 (0, 0))) :: (.blk b6 (.cells #[.bool x4.1.Leaf, .slice A18 x4.1.Pairs.length u18, .slice A19 x4.1.Keys.length u19, .slice A20 x4.1.Kids.length u20] 26 (0, 0))) :: (.blk b5 (.cells #[.bool x3.2.2.1.Leaf, .slice A15 x3.2.2.1.Pairs.length u15, .slice A16 x3.2.2.1.Keys.length u16, .slice A17 x3.2.2.1.Kids.length u17] 26 (0, 0))) :: (.blk b4 (.cells #[.bool x3.1.Leaf, .slice A11 x3.1.Pairs.length u11, .slice A12 x3.1.Keys.length u12, .slice A13 x3.1.Kids.length u13] 26 (0, 0))) :: (.blk b3 (.cells #[.bool p2.Leaf, .slice A7 p2.Pairs.length u7, .slice A8 p2.Keys.length u8, .slice A9 p2.Kids.length u9] 26 (0, 0))) :: (.blk b2 (.cells #[.bool p1.Leaf, .slice A4 p1.Pairs.length u4, .slice A5 p1.Keys.length u5, .slice A6 p1.Kids.length u6] 26 (0, 0))) :: (.blk b1 (.cells #[.bool p0.Leaf, .slice A1 p0.Pairs.length u1, .slice A2 p0.Keys.length u2, .slice A3 p0.Kids.length u3] 26 (0, 0))) :: F) p1 p3 p2 A4 u4 A5 u5 A6 u6 A10 u10 A7 u7 A8 u8 A9 u9 hc4 e4 hc5 e5 hc6 e6 hc10 e10 hc7 e7 hc8 e8 hc9 e9 s hx4) ?_)
 intro X5 hX5
 refine fun _ _ hJ => hJ X5 ?_
 clear s
 intro I12 A25 n8 u25 cl8 A26 n9 u26 cl9 A27 n10 u27 cl10 w17 s k22 hn8 rp8 hn9 rp9 hn10 rp10
 refine hX5 _ _ ?_
 replace e10 := e10.st k22
 replace e14 := e14.st k22
 replace e21 := e21.st k22
 replace e11 := e11.st k22
 replace e12 := e12.st k22
 replace e13 := e13.st k22
 replace e15 := e15.st k22
 replace e16 := e16.st k22
 replace e17 := e17.st k22
 replace e1 := e1.st k22
 replace e2 := e2.st k22
 replace e3 := e3.st k22
 replace e18 := e18.st k22
 replace e19 := e19.st k22
 replace e20 := e20.st k22
 replace e22 := e22.st k22
 replace e23 := e23.st k22
 replace e24 := e24.st k22
 replace e4 := e4.st k22
 replace e5 := e5.st k22
 replace e6 := e6.st k22
 replace e7 := e7.st k22
 replace e8 := e8.st k22
 replace e9 := e9.st k22
 replace kk := kk.trans k22
 rw [hn8] at s
 try rw [hn8]
 obtain ⟨I13, s', k23, hc25, e25⟩ := St.give s (i := 0) rfl rfl rp8
 replace s := s'; clear s'
 replace e10 := e10.st k23
 replace e14 := e14.st k23
 replace e21 := e21.st k23
 replace e11 := e11.st k23
 replace e12 := e12.st k23
 replace e13 := e13.st k23
 replace e15 := e15.st k23
 replace e16 := e16.st k23
 replace e17 := e17.st k23
 replace e1 := e1.st k23
 replace e2 := e2.st k23
 replace e3 := e3.st k23
 replace e18 := e18.st k23
 replace e19 := e19.st k23
 replace e20 := e20.st k23
 replace e22 := e22.st k23
 replace e23 := e23.st k23
 replace e24 := e24.st k23
 replace e4 := e4.st k23
 replace e5 := e5.st k23
 replace e6 := e6.st k23
 replace e7 := e7.st k23
 replace e8 := e8.st k23
 replace e9 := e9.st k23
 replace rp9 := rp9.st k23
 replace rp10 := rp10.st k23
 replace kk := kk.trans k23
 rw [hn9] at s
 try rw [hn9]
 obtain ⟨I14, s', k24, hc26, e26⟩ := St.give s (i := 0) rfl rfl rp9
 replace s := s'; clear s'
 replace e10 := e10.st k24
 replace e14 := e14.st k24
 replace e21 := e21.st k24
 replace e11 := e11.st k24
 replace e12 := e12.st k24
 replace e13 := e13.st k24
 replace e15 := e15.st k24
 replace e16 := e16.st k24
 replace e17 := e17.st k24
 replace e1 := e1.st k24
 replace e2 := e2.st k24
 replace e3 := e3.st k24
 replace e18 := e18.st k24
 replace e19 := e19.st k24
 replace e20 := e20.st k24
 replace e22 := e22.st k24
 replace e23 := e23.st k24
 replace e24 := e24.st k24
 replace e4 := e4.st k24
 replace e5 := e5.st k24
 replace e6 := e6.st k24
 replace e7 := e7.st k24
 replace e8 := e8.st k24
 replace e9 := e9.st k24
 replace e25 := e25.st k24
 replace rp10 := rp10.st k24
 replace kk := kk.trans k24
 rw [hn10] at s
 try rw [hn10]
 obtain ⟨I15, s', k25, hc27, e27⟩ := St.give s (i := 0) rfl rfl rp10
 replace s := s'; clear s'
 replace e10 := e10.st k25
 replace e14 := e14.st k25
 replace e21 := e21.st k25
 replace e11 := e11.st k25
 replace e12 := e12.st k25
 replace e13 := e13.st k25
 replace e15 := e15.st k25
 replace e16 := e16.st k25
 replace e17 := e17.st k25
 replace e1 := e1.st k25
 replace e2 := e2.st k25
 replace e3 := e3.st k25
 replace e18 := e18.st k25
 replace e19 := e19.st k25
 replace e20 := e20.st k25
 replace e22 := e22.st k25
 replace e23 := e23.st k25
 replace e24 := e24.st k25
 replace e4 := e4.st k25
 replace e5 := e5.st k25
 replace e6 := e6.st k25
 replace e7 := e7.st k25
 replace e8 := e8.st k25
 replace e9 := e9.st k25
 replace e25 := e25.st k25
 replace e26 := e26.st k25
 replace kk := kk.trans k25
 refine RW.seg hT 3 [] [] [.tuple #[.agg #[.bool x5.1.Leaf, .slice A25 x5.1.Pairs.length u25, .slice A26 x5.1.Keys.length u26, .slice A27 x5.1.Kids.length u27], .int .i64 x5.2], .agg #[.bool x5.1.Leaf, .slice A25 x5.1.Pairs.length u25, .slice A26 x5.1.Keys.length u26, .slice A27 x5.1.Kids.length u27], .int .i64 x5.2] [] (by kernel_rfl) (trivial) ?_
 refine RW.op (by kernel_rfl) (OK.new hT (f := fun b => .pointer (some ⟨b, 0, none⟩)) (cs := [.bool false, .slice none 0 0, .slice none 0 0, .slice none 0 0]) (e := 26) (c := .tt) s (by kernel_rfl) trivial ?_)
 clear s
 rintro w18 b8 s k26 -
 replace e10 := e10.st k26
 replace e14 := e14.st k26
 replace e21 := e21.st k26
 replace e11 := e11.st k26
 replace e12 := e12.st k26
 replace e13 := e13.st k26
 replace e15 := e15.st k26
 replace e16 := e16.st k26
 replace e17 := e17.st k26
 replace e1 := e1.st k26
 replace e2 := e2.st k26
 replace e3 := e3.st k26
 replace e18 := e18.st k26
 replace e19 := e19.st k26
 replace e20 := e20.st k26
 replace e22 := e22.st k26
 replace e23 := e23.st k26
 replace e24 := e24.st k26
 replace e25 := e25.st k26
 replace e26 := e26.st k26
 replace e27 := e27.st k26
 replace e4 := e4.st k26
 replace e5 := e5.st k26
 replace e6 := e6.st k26
 replace e7 := e7.st k26
 replace e8 := e8.st k26
 replace e9 := e9.st k26
 replace kk := kk.trans k26
 refine RW.op (by kernel_rfl) (OK.store hT (i := 0) (b := b8) (off := 0) (n := 4) (vs := [.bool x5.1.Leaf, .slice A25 x5.1.Pairs.length u25, .slice A26 x5.1.Keys.length u26, .slice A27 x5.1.Kids.length u27]) (cs := [.bool false, .slice none 0 0, .slice none 0 0, .slice none 0 0]) (e := 26) s (by kernel_rfl) rfl rfl (flat_ok rfl) (Nat.le_of_ble_eq_true rfl) ?_)
 clear s
 rintro w19 s k27 -
 replace e10 := e10.st k27
 replace e14 := e14.st k27
 replace e21 := e21.st k27
 replace e11 := e11.st k27
 replace e12 := e12.st k27
 replace e13 := e13.st k27
 replace e15 := e15.st k27
 replace e16 := e16.st k27
 replace e17 := e17.st k27
 replace e1 := e1.st k27
 replace e2 := e2.st k27
 replace e3 := e3.st k27
 replace e18 := e18.st k27
 replace e19 := e19.st k27
 replace e20 := e20.st k27
 replace e22 := e22.st k27
 replace e23 := e23.st k27
 replace e24 := e24.st k27
 replace e25 := e25.st k27
 replace e26 := e26.st k27
 replace e27 := e27.st k27
 replace e4 := e4.st k27
 replace e5 := e5.st k27
 replace e6 := e6.st k27
 replace e7 := e7.st k27
 replace e8 := e8.st k27
 replace e9 := e9.st k27
 replace kk := kk.trans k27
 refine RW.seg hT 1 [] [] [.int .i64 x5.2] [] (by kernel_rfl) (trivial) ?_
 refine RW.nil ?_
 refine WPK.seq ?_
 refine WPK.region ?_
 refine RW.seg hT 3 [.agg #[.bool p1.Leaf, .slice A4 p1.Pairs.length u4, .slice A5 p1.Keys.length u5, .slice A6 p1.Kids.length u6], .agg #[.bool p2.Leaf, .slice A7 p2.Pairs.length u7, .slice A8 p2.Keys.length u8, .slice A9 p2.Kids.length u9]] [] [.agg #[.bool p1.Leaf, .slice A4 p1.Pairs.length u4, .slice A5 p1.Keys.length u5, .slice A6 p1.Kids.length u6], .slice A10 p3.length u10, .agg #[.bool p2.Leaf, .slice A7 p2.Pairs.length u7, .slice A8 p2.Keys.length u8, .slice A9 p2.Kids.length u9]] [.cells ⟨b2, 0, none⟩ [.bool p1.Leaf, .slice A4 p1.Pairs.length u4, .slice A5 p1.Keys.length u5, .slice A6 p1.Kids.length u6] 4, .cells ⟨b3, 0, none⟩ [.bool p2.Leaf, .slice A7 p2.Pairs.length u7, .slice A8 p2.Keys.length u8, .slice A9 p2.Kids.length u9] 4] (by kernel_rfl) (⟨s.cells (i := 6) rfl rfl rfl, s.cells (i := 5) rfl rfl rfl⟩) ?_
 obtain ⟨x6, hx5, hf⟩ := bindS hf
 refine RW.op (by kernel_rfl) (OK.call' en38 (by kernel_rfl) (c38 (F := (.blk b8 (.cells #[.bool x5.1.Leaf, .slice A25 x5.1.Pairs.length u25, .slice A26 x5.1.Keys.length u26, .slice A27 x5.1.Kids.length u27] 26 (0, 0))) :: (.blk b7 (.cells #[.bool x4.2.2.1.Leaf, .slice A22 x4.2.2.1.Pairs.length u22, .slice A23 x4.2.2.1.Keys.length u23, .slice A24 x4.2.2.1.Kids.length u24] 26 (0, 0))) :: (.blk b6 (.cells #[.bool x4.1.Leaf, .slice A18 x4.1.Pairs.length u18, .slice A19 x4.1.Keys.length u19, .slice A20 x4.1.Kids.length u20] 26 (0, 0))) :: (.blk b5 (.cells #[.bool x3.2.2.1.Leaf, .slice A15 x3.2.2.1.Pairs.length u15, .slice A16 x3.2.2.1.Keys.length u16, .slice A17 x3.2.2.1.Kids.length u17] 26 (0, 0))) :: (.blk b4 (.cells #[.bool x3.1.Leaf, .slice A11 x3.1.Pairs.length u11, .slice A12 x3.1.Keys.length u12, .slice A13 x3.1.Kids.length u13] 26 (0, 0))) :: (.blk b3 (.cells #[.bool p2.Leaf, .slice A7 p2.Pairs.length u7, .slice A8 p2.Keys.length u8, .slice A9 p2.Kids.length u9] 26 (0, 0))) :: (.blk b2 (.cells #[.bool p1.Leaf, .slice A4 p1.Pairs.length u4, .slice A5 p1.Keys.length u5, .slice A6 p1.Kids.length u6] 26 (0, 0))) :: (.blk b1 (.cells #[.bool p0.Leaf, .slice A1 p0.Pairs.length u1, .slice A2 p0.Keys.length u2, .slice A3 p0.Kids.length u3] 26 (0, 0))) :: F) p1 p3 p2 A4 u4 A5 u5 A6 u6 A10 u10 A7 u7 A8 u8 A9 u9 hc4 e4 hc5 e5 hc6 e6 hc10 e10 hc7 e7 hc8 e8 hc9 e9 s hx5) ?_)
 intro X6 hX6
 refine fun _ _ hJ => hJ X6 ?_
 clear s
 intro I16 A28 n11 u28 cl11 A29 n12 u29 cl12 A30 n13 u30 cl13 w20 s k28 hn11 rp11 hn12 rp12 hn13 rp13
 refine hX6 _ _ ?_
 replace e10 := e10.st k28
 replace e14 := e14.st k28
 replace e21 := e21.st k28
 replace e11 := e11.st k28
 replace e12 := e12.st k28
 replace e13 := e13.st k28
 replace e15 := e15.st k28
 replace e16 := e16.st k28
 replace e17 := e17.st k28
 replace e1 := e1.st k28
 replace e2 := e2.st k28
 replace e3 := e3.st k28
 replace e18 := e18.st k28
 replace e19 := e19.st k28
 replace e20 := e20.st k28
 replace e22 := e22.st k28
 replace e23 := e23.st k28
 replace e24 := e24.st k28
 replace e25 := e25.st k28
 replace e26 := e26.st k28
 replace e27 := e27.st k28
 replace e4 := e4.st k28
 replace e5 := e5.st k28
 replace e6 := e6.st k28
 replace e7 := e7.st k28
 replace e8 := e8.st k28
 replace e9 := e9.st k28
 replace kk := kk.trans k28
 rw [hn11] at s
 try rw [hn11]
 obtain ⟨I17, s', k29, hc28, e28⟩ := St.give s (i := 0) rfl rfl rp11
 replace s := s'; clear s'
 replace e10 := e10.st k29
 replace e14 := e14.st k29
 replace e21 := e21.st k29
 replace e11 := e11.st k29
 replace e12 := e12.st k29
 replace e13 := e13.st k29
 replace e15 := e15.st k29
 replace e16 := e16.st k29
 replace e17 := e17.st k29
 replace e1 := e1.st k29
 replace e2 := e2.st k29
 replace e3 := e3.st k29
 replace e18 := e18.st k29
 replace e19 := e19.st k29
 replace e20 := e20.st k29
 replace e22 := e22.st k29
 replace e23 := e23.st k29
 replace e24 := e24.st k29
 replace e25 := e25.st k29
 replace e26 := e26.st k29
 replace e27 := e27.st k29
 replace e4 := e4.st k29
 replace e5 := e5.st k29
 replace e6 := e6.st k29
 replace e7 := e7.st k29
 replace e8 := e8.st k29
 replace e9 := e9.st k29
 replace rp12 := rp12.st k29
 replace rp13 := rp13.st k29
 replace kk := kk.trans k29
 rw [hn12] at s
 try rw [hn12]
 obtain ⟨I18, s', k30, hc29, e29⟩ := St.give s (i := 0) rfl rfl rp12
 replace s := s'; clear s'
 replace e10 := e10.st k30
 replace e14 := e14.st k30
 replace e21 := e21.st k30
 replace e11 := e11.st k30
 replace e12 := e12.st k30
 replace e13 := e13.st k30
 replace e15 := e15.st k30
 replace e16 := e16.st k30
 replace e17 := e17.st k30
 replace e1 := e1.st k30
 replace e2 := e2.st k30
 replace e3 := e3.st k30
 replace e18 := e18.st k30
 replace e19 := e19.st k30
 replace e20 := e20.st k30
 replace e22 := e22.st k30
 replace e23 := e23.st k30
 replace e24 := e24.st k30
 replace e25 := e25.st k30
 replace e26 := e26.st k30
 replace e27 := e27.st k30
 replace e4 := e4.st k30
 replace e5 := e5.st k30
 replace e6 := e6.st k30
 replace e7 := e7.st k30
 replace e8 := e8.st k30
 replace e9 := e9.st k30
 replace e28 := e28.st k30
 replace rp13 := rp13.st k30
 replace kk := kk.trans k30
 rw [hn13] at s
 try rw [hn13]
 obtain ⟨I19, s', k31, hc30, e30⟩ := St.give s (i := 0) rfl rfl rp13
 replace s := s'; clear s'
 replace e10 := e10.st k31
 replace e14 := e14.st k31
 replace e21 := e21.st k31
 replace e11 := e11.st k31
 replace e12 := e12.st k31
 replace e13 := e13.st k31
 replace e15 := e15.st k31
 replace e16 := e16.st k31
 replace e17 := e17.st k31
 replace e1 := e1.st k31
 replace e2 := e2.st k31
 replace e3 := e3.st k31
 replace e18 := e18.st k31
 replace e19 := e19.st k31
 replace e20 := e20.st k31
 replace e22 := e22.st k31
 replace e23 := e23.st k31
 replace e24 := e24.st k31
 replace e25 := e25.st k31
 replace e26 := e26.st k31
 replace e27 := e27.st k31
 replace e4 := e4.st k31
 replace e5 := e5.st k31
 replace e6 := e6.st k31
 replace e7 := e7.st k31
 replace e8 := e8.st k31
 replace e9 := e9.st k31
 replace e28 := e28.st k31
 replace e29 := e29.st k31
 replace kk := kk.trans k31
 refine RW.seg hT 3 [] [] [.tuple #[.agg #[.bool x6.1.Leaf, .slice A28 x6.1.Pairs.length u28, .slice A29 x6.1.Keys.length u29, .slice A30 x6.1.Kids.length u30], .int .i64 x6.2], .agg #[.bool x6.1.Leaf, .slice A28 x6.1.Pairs.length u28, .slice A29 x6.1.Keys.length u29, .slice A30 x6.1.Kids.length u30], .int .i64 x6.2] [] (by kernel_rfl) (trivial) ?_
 refine RW.op (by kernel_rfl) (OK.new hT (f := fun b => .pointer (some ⟨b, 0, none⟩)) (cs := [.bool false, .slice none 0 0, .slice none 0 0, .slice none 0 0]) (e := 26) (c := .tt) s (by kernel_rfl) trivial ?_)
 clear s
 rintro w21 b9 s k32 -
 replace e10 := e10.st k32
 replace e14 := e14.st k32
 replace e21 := e21.st k32
 replace e11 := e11.st k32
 replace e12 := e12.st k32
 replace e13 := e13.st k32
 replace e15 := e15.st k32
 replace e16 := e16.st k32
 replace e17 := e17.st k32
 replace e1 := e1.st k32
 replace e2 := e2.st k32
 replace e3 := e3.st k32
 replace e18 := e18.st k32
 replace e19 := e19.st k32
 replace e20 := e20.st k32
 replace e22 := e22.st k32
 replace e23 := e23.st k32
 replace e24 := e24.st k32
 replace e25 := e25.st k32
 replace e26 := e26.st k32
 replace e27 := e27.st k32
 replace e4 := e4.st k32
 replace e5 := e5.st k32
 replace e6 := e6.st k32
 replace e7 := e7.st k32
 replace e8 := e8.st k32
 replace e9 := e9.st k32
 replace e28 := e28.st k32
 replace e29 := e29.st k32
 replace e30 := e30.st k32
 replace kk := kk.trans k32
 refine RW.op (by kernel_rfl) (OK.store hT (i := 0) (b := b9) (off := 0) (n := 4) (vs := [.bool x6.1.Leaf, .slice A28 x6.1.Pairs.length u28, .slice A29 x6.1.Keys.length u29, .slice A30 x6.1.Kids.length u30]) (cs := [.bool false, .slice none 0 0, .slice none 0 0, .slice none 0 0]) (e := 26) s (by kernel_rfl) rfl rfl (flat_ok rfl) (Nat.le_of_ble_eq_true rfl) ?_)
 clear s
 rintro w22 s k33 -
 replace e10 := e10.st k33
 replace e14 := e14.st k33
 replace e21 := e21.st k33
 replace e11 := e11.st k33
 replace e12 := e12.st k33
 replace e13 := e13.st k33
 replace e15 := e15.st k33
 replace e16 := e16.st k33
 replace e17 := e17.st k33
 replace e1 := e1.st k33
 replace e2 := e2.st k33
 replace e3 := e3.st k33
 replace e18 := e18.st k33
 replace e19 := e19.st k33
 replace e20 := e20.st k33
 replace e22 := e22.st k33
 replace e23 := e23.st k33
 replace e24 := e24.st k33
 replace e25 := e25.st k33
 replace e26 := e26.st k33
 replace e27 := e27.st k33
 replace e4 := e4.st k33
 replace e5 := e5.st k33
 replace e6 := e6.st k33
 replace e7 := e7.st k33
 replace e8 := e8.st k33
 replace e9 := e9.st k33
 replace e28 := e28.st k33
 replace e29 := e29.st k33
 replace e30 := e30.st k33
 replace kk := kk.trans k33
 refine RW.seg hT 1 [] [] [.int .i64 x6.2] [] (by kernel_rfl) (trivial) ?_
 refine RW.nil ?_
 refine WPK.seq ?_
 refine WPK.cut' (Kn fun D2 ds wz => ∀ X : Kont, (∀ (I20 : Nat → Prop) (x7 : Bool) (w' : World), g7_j2 x7 = some r → St w1 M I20 (F) w' → Kp I w I20 w' → X [(gd D2 0), (gd D2 1), (gd D2 2), (gd D2 3), (gd D2 4), (gd D2 5), (gd D2 6), (gd D2 7), .bool x7, (gd D2 9), (gd D2 10), (gd D2 11), (gd D2 12), (gd D2 13), (gd D2 14), (gd D2 15), (gd D2 16), (gd D2 17), (gd D2 18), (gd D2 19), (gd D2 20), (gd D2 21), (gd D2 22), (gd D2 23), (gd D2 24), (gd D2 25), (gd D2 26), (gd D2 27), (gd D2 28), (gd D2 29), (gd D2 30), (gd D2 31), (gd D2 32), (gd D2 33), (gd D2 34), (gd D2 35), (gd D2 36), (gd D2 37), (gd D2 38), (gd D2 39), (gd D2 40), (gd D2 41), (gd D2 42), (gd D2 43), (gd D2 44), (gd D2 45), (gd D2 46), (gd D2 47), (gd D2 48), (gd D2 49), (gd D2 50), (gd D2 51), (gd D2 52), (gd D2 53), (gd D2 54), (gd D2 55), (gd D2 56), (gd D2 57), (gd D2 58), (gd D2 59), (gd D2 60), (gd D2 61), (gd D2 62), (gd D2 63), (gd D2 64), (gd D2 65), (gd D2 66), (gd D2 67), (gd D2 68), (gd D2 69), (gd D2 70), (gd D2 71), (gd D2 72), (gd D2 73), (gd D2 74), (gd D2 75), (gd D2 76), (gd D2 77), (gd D2 78), (gd D2 79), (gd D2 80), (gd D2 81), (gd D2 82), (gd D2 83), (gd D2 84), (gd D2 85), (gd D2 86), (gd D2 87), (gd D2 88), (gd D2 89), (gd D2 90), (gd D2 91), (gd D2 92)] [] w') → X D2 ds wz) ?_ ?_
 intro X7 hX7
 refine fun D2 _ _ hJ => hJ X7 ?_
 clear s
 intro I20 x7 w23 hf s kk
 refine hX7 _ _ _ ?_
 unfold g7_j2 at hf
 refine WPK.ret (?_)
 obtain rfl := someS hf
 refine Fin.of (rs := [.tmp 8]) hT [] (.bool x7) [] rfl (by kernel_rfl) (trivial) ?_
 exact fun X h => vc rfl (h I20 _ s kk)
 refine WPK.region ?_
 refine RW.seg hT 2 [.agg #[.bool x3.1.Leaf, .slice A11 x3.1.Pairs.length u11, .slice A12 x3.1.Keys.length u12, .slice A13 x3.1.Kids.length u13], .agg #[.bool x4.1.Leaf, .slice A18 x4.1.Pairs.length u18, .slice A19 x4.1.Keys.length u19, .slice A20 x4.1.Kids.length u20]] [] [.agg #[.bool x3.1.Leaf, .slice A11 x3.1.Pairs.length u11, .slice A12 x3.1.Keys.length u12, .slice A13 x3.1.Kids.length u13], .agg #[.bool x4.1.Leaf, .slice A18 x4.1.Pairs.length u18, .slice A19 x4.1.Keys.length u19, .slice A20 x4.1.Kids.length u20]] [.cells ⟨b4, 0, none⟩ [.bool x3.1.Leaf, .slice A11 x3.1.Pairs.length u11, .slice A12 x3.1.Keys.length u12, .slice A13 x3.1.Kids.length u13] 4, .cells ⟨b6, 0, none⟩ [.bool x4.1.Leaf, .slice A18 x4.1.Pairs.length u18, .slice A19 x4.1.Keys.length u19, .slice A20 x4.1.Kids.length u20] 4] (by kernel_rfl) (⟨s.cells (i := 5) rfl rfl rfl, s.cells (i := 3) rfl rfl rfl⟩) ?_
 obtain ⟨x8, hx6, hf⟩ := bindS hf
 refine RW.op (by kernel_rfl) (OK.call' en20 (by kernel_rfl) (c20 (F := (.blk b9 (.cells #[.bool x6.1.Leaf, .slice A28 x6.1.Pairs.length u28, .slice A29 x6.1.Keys.length u29, .slice A30 x6.1.Kids.length u30] 26 (0, 0))) :: (.blk b8 (.cells #[.bool x5.1.Leaf, .slice A25 x5.1.Pairs.length u25, .slice A26 x5.1.Keys.length u26, .slice A27 x5.1.Kids.length u27] 26 (0, 0))) :: (.blk b7 (.cells #[.bool x4.2.2.1.Leaf, .slice A22 x4.2.2.1.Pairs.length u22, .slice A23 x4.2.2.1.Keys.length u23, .slice A24 x4.2.2.1.Kids.length u24] 26 (0, 0))) :: (.blk b6 (.cells #[.bool x4.1.Leaf, .slice A18 x4.1.Pairs.length u18, .slice A19 x4.1.Keys.length u19, .slice A20 x4.1.Kids.length u20] 26 (0, 0))) :: (.blk b5 (.cells #[.bool x3.2.2.1.Leaf, .slice A15 x3.2.2.1.Pairs.length u15, .slice A16 x3.2.2.1.Keys.length u16, .slice A17 x3.2.2.1.Kids.length u17] 26 (0, 0))) :: (.blk b4 (.cells #[.bool x3.1.Leaf, .slice A11 x3.1.Pairs.length u11, .slice A12 x3.1.Keys.length u12, .slice A13 x3.1.Kids.length u13] 26 (0, 0))) :: (.blk b3 (.cells #[.bool p2.Leaf, .slice A7 p2.Pairs.length u7, .slice A8 p2.Keys.length u8, .slice A9 p2.Kids.length u9] 26 (0, 0))) :: (.blk b2 (.cells #[.bool p1.Leaf, .slice A4 p1.Pairs.length u4, .slice A5 p1.Keys.length u5, .slice A6 p1.Kids.length u6] 26 (0, 0))) :: (.blk b1 (.cells #[.bool p0.Leaf, .slice A1 p0.Pairs.length u1, .slice A2 p0.Keys.length u2, .slice A3 p0.Kids.length u3] 26 (0, 0))) :: F) x3.1 x4.1 A11 u11 A12 u12 A13 u13 A18 u18 A19 u19 A20 u20 hc11 e11 hc12 e12 hc13 e13 hc18 e18 hc19 e19 hc20 e20 s hx6) ?_)
 intro X8 hX8
 refine fun _ _ hJ => hJ X8 ?_
 clear s
 intro I21 w24 s k34
 refine hX8 _ _ ?_
 replace e10 := e10.st k34
 replace e14 := e14.st k34
 replace e21 := e21.st k34
 replace e11 := e11.st k34
 replace e12 := e12.st k34
 replace e13 := e13.st k34
 replace e15 := e15.st k34
 replace e16 := e16.st k34
 replace e17 := e17.st k34
 replace e1 := e1.st k34
 replace e2 := e2.st k34
 replace e3 := e3.st k34
 replace e18 := e18.st k34
 replace e19 := e19.st k34
 replace e20 := e20.st k34
 replace e22 := e22.st k34
 replace e23 := e23.st k34
 replace e24 := e24.st k34
 replace e25 := e25.st k34
 replace e26 := e26.st k34
 replace e27 := e27.st k34
 replace e4 := e4.st k34
 replace e5 := e5.st k34
 replace e6 := e6.st k34
 replace e7 := e7.st k34
 replace e8 := e8.st k34
 replace e9 := e9.st k34
 replace e28 := e28.st k34
 replace e29 := e29.st k34
 replace e30 := e30.st k34
 replace kk := kk.trans k34
 by_cases h2 : x8 = true
 have hf := iteT h2 hf
 refine RW.seg hT 3 [] [(68, .bool true)] [.bool true, .slice A14 x3.2.1.length u14, .slice A21 x4.2.1.length u21] [.veq (.bool (x8)) (.bool true)] (by kernel_rfl) (b_t h2) ?_
 obtain ⟨x9, hx7, hf⟩ := bindS hf
 refine RW.op (by kernel_rfl) (OK.call' en34 (by kernel_rfl) (c34 (F := (.blk b9 (.cells #[.bool x6.1.Leaf, .slice A28 x6.1.Pairs.length u28, .slice A29 x6.1.Keys.length u29, .slice A30 x6.1.Kids.length u30] 26 (0, 0))) :: (.blk b8 (.cells #[.bool x5.1.Leaf, .slice A25 x5.1.Pairs.length u25, .slice A26 x5.1.Keys.length u26, .slice A27 x5.1.Kids.length u27] 26 (0, 0))) :: (.blk b7 (.cells #[.bool x4.2.2.1.Leaf, .slice A22 x4.2.2.1.Pairs.length u22, .slice A23 x4.2.2.1.Keys.length u23, .slice A24 x4.2.2.1.Kids.length u24] 26 (0, 0))) :: (.blk b6 (.cells #[.bool x4.1.Leaf, .slice A18 x4.1.Pairs.length u18, .slice A19 x4.1.Keys.length u19, .slice A20 x4.1.Kids.length u20] 26 (0, 0))) :: (.blk b5 (.cells #[.bool x3.2.2.1.Leaf, .slice A15 x3.2.2.1.Pairs.length u15, .slice A16 x3.2.2.1.Keys.length u16, .slice A17 x3.2.2.1.Kids.length u17] 26 (0, 0))) :: (.blk b4 (.cells #[.bool x3.1.Leaf, .slice A11 x3.1.Pairs.length u11, .slice A12 x3.1.Keys.length u12, .slice A13 x3.1.Kids.length u13] 26 (0, 0))) :: (.blk b3 (.cells #[.bool p2.Leaf, .slice A7 p2.Pairs.length u7, .slice A8 p2.Keys.length u8, .slice A9 p2.Kids.length u9] 26 (0, 0))) :: (.blk b2 (.cells #[.bool p1.Leaf, .slice A4 p1.Pairs.length u4, .slice A5 p1.Keys.length u5, .slice A6 p1.Kids.length u6] 26 (0, 0))) :: (.blk b1 (.cells #[.bool p0.Leaf, .slice A1 p0.Pairs.length u1, .slice A2 p0.Keys.length u2, .slice A3 p0.Kids.length u3] 26 (0, 0))) :: F) x3.2.1 x4.2.1 A14 u14 A21 u21 hc14 e14 hc21 e21 s hx7) ?_)
 intro X9 hX9
 refine fun _ _ hJ => hJ X9 ?_
 clear s
 intro I22 w25 s k35
 refine hX9 _ _ ?_
 replace e10 := e10.st k35
 replace e14 := e14.st k35
 replace e21 := e21.st k35
 replace e11 := e11.st k35
 replace e12 := e12.st k35
 replace e13 := e13.st k35
 replace e15 := e15.st k35
 replace e16 := e16.st k35
 replace e17 := e17.st k35
 replace e1 := e1.st k35
 replace e2 := e2.st k35
 replace e3 := e3.st k35
 replace e18 := e18.st k35
 replace e19 := e19.st k35
 replace e20 := e20.st k35
 replace e22 := e22.st k35
 replace e23 := e23.st k35
 replace e24 := e24.st k35
 replace e25 := e25.st k35
 replace e26 := e26.st k35
 replace e27 := e27.st k35
 replace e4 := e4.st k35
 replace e5 := e5.st k35
 replace e6 := e6.st k35
 replace e7 := e7.st k35
 replace e8 := e8.st k35
 replace e9 := e9.st k35
 replace e28 := e28.st k35
 replace e29 := e29.st k35
 replace e30 := e30.st k35
 replace kk := kk.trans k35
 refine RW.seg hT 1 [] [] [.bool x9] [] (by kernel_rfl) (trivial) ?_
 by_cases h3 : x9 = true
 have hf := iteT h3 hf
 refine RW.seg hT 3 [.agg #[.bool x3.2.2.1.Leaf, .slice A15 x3.2.2.1.Pairs.length u15, .slice A16 x3.2.2.1.Keys.length u16, .slice A17 x3.2.2.1.Kids.length u17], .agg #[.bool x4.2.2.1.Leaf, .slice A22 x4.2.2.1.Pairs.length u22, .slice A23 x4.2.2.1.Keys.length u23, .slice A24 x4.2.2.1.Kids.length u24]] [(73, .bool true)] [.bool true, .agg #[.bool x3.2.2.1.Leaf, .slice A15 x3.2.2.1.Pairs.length u15, .slice A16 x3.2.2.1.Keys.length u16, .slice A17 x3.2.2.1.Kids.length u17], .agg #[.bool x4.2.2.1.Leaf, .slice A22 x4.2.2.1.Pairs.length u22, .slice A23 x4.2.2.1.Keys.length u23, .slice A24 x4.2.2.1.Kids.length u24]] [.veq (.bool (x9)) (.bool true), .cells ⟨b5, 0, none⟩ [.bool x3.2.2.1.Leaf, .slice A15 x3.2.2.1.Pairs.length u15, .slice A16 x3.2.2.1.Keys.length u16, .slice A17 x3.2.2.1.Kids.length u17] 4, .cells ⟨b7, 0, none⟩ [.bool x4.2.2.1.Leaf, .slice A22 x4.2.2.1.Pairs.length u22, .slice A23 x4.2.2.1.Keys.length u23, .slice A24 x4.2.2.1.Kids.length u24] 4] (by kernel_rfl) (⟨b_t h3, s.cells (i := 4) rfl rfl rfl, s.cells (i := 2) rfl rfl rfl⟩) ?_
 obtain ⟨x10, hx8, hf⟩ := bindS hf
 refine RW.op (by kernel_rfl) (OK.call' en20 (by kernel_rfl) (c20 (F := (.blk b9 (.cells #[.bool x6.1.Leaf, .slice A28 x6.1.Pairs.length u28, .slice A29 x6.1.Keys.length u29, .slice A30 x6.1.Kids.length u30] 26 (0, 0))) :: (.blk b8 (.cells #[.bool x5.1.Leaf, .slice A25 x5.1.Pairs.length u25, .slice A26 x5.1.Keys.length u26, .slice A27 x5.1.Kids.length u27] 26 (0, 0))) :: (.blk b7 (.cells #[.bool x4.2.2.1.Leaf, .slice A22 x4.2.2.1.Pairs.length u22, .slice A23 x4.2.2.1.Keys.length u23, .slice A24 x4.2.2.1.Kids.length u24] 26 (0, 0))) :: (.blk b6 (.cells #[.bool x4.1.Leaf, .slice A18 x4.1.Pairs.length u18, .slice A19 x4.1.Keys.length u19, .slice A20 x4.1.Kids.length u20] 26 (0, 0))) :: (.blk b5 (.cells #[.bool x3.2.2.1.Leaf, .slice A15 x3.2.2.1.Pairs.length u15, .slice A16 x3.2.2.1.Keys.length u16, .slice A17 x3.2.2.1.Kids.length u17] 26 (0, 0))) :: (.blk b4 (.cells #[.bool x3.1.Leaf, .slice A11 x3.1.Pairs.length u11, .slice A12 x3.1.Keys.length u12, .slice A13 x3.1.Kids.length u13] 26 (0, 0))) :: (.blk b3 (.cells #[.bool p2.Leaf, .slice A7 p2.Pairs.length u7, .slice A8 p2.Keys.length u8, .slice A9 p2.Kids.length u9] 26 (0, 0))) :: (.blk b2 (.cells #[.bool p1.Leaf, .slice A4 p1.Pairs.length u4, .slice A5 p1.Keys.length u5, .slice A6 p1.Kids.length u6] 26 (0, 0))) :: (.blk b1 (.cells #[.bool p0.Leaf, .slice A1 p0.Pairs.length u1, .slice A2 p0.Keys.length u2, .slice A3 p0.Kids.length u3] 26 (0, 0))) :: F) x3.2.2.1 x4.2.2.1 A15 u15 A16 u16 A17 u17 A22 u22 A23 u23 A24 u24 hc15 e15 hc16 e16 hc17 e17 hc22 e22 hc23 e23 hc24 e24 s hx8) ?_)
 intro X10 hX10
 refine fun _ _ hJ => hJ X10 ?_
 clear s
 intro I23 w26 s k36
 refine hX10 _ _ ?_
 replace e10 := e10.st k36
 replace e14 := e14.st k36
 replace e21 := e21.st k36
 replace e11 := e11.st k36
 replace e12 := e12.st k36
 replace e13 := e13.st k36
 replace e15 := e15.st k36
 replace e16 := e16.st k36
 replace e17 := e17.st k36
 replace e1 := e1.st k36
 replace e2 := e2.st k36
 replace e3 := e3.st k36
 replace e18 := e18.st k36
 replace e19 := e19.st k36
 replace e20 := e20.st k36
 replace e22 := e22.st k36
 replace e23 := e23.st k36
 replace e24 := e24.st k36
 replace e25 := e25.st k36
 replace e26 := e26.st k36
 replace e27 := e27.st k36
 replace e4 := e4.st k36
 replace e5 := e5.st k36
 replace e6 := e6.st k36
 replace e7 := e7.st k36
 replace e8 := e8.st k36
 replace e9 := e9.st k36
 replace e28 := e28.st k36
 replace e29 := e29.st k36
 replace e30 := e30.st k36
 replace kk := kk.trans k36
 refine RW.seg hT 1 [] [] [.bool x10] [] (by kernel_rfl) (trivial) ?_
 by_cases h4 : x10 = true
 have hf := iteT h4 hf
 refine RW.seg hT 5 [] [(78, .bool true), (81, .bool (decide (x3.2.2.2 = x4.2.2.2)))] [.bool true, .int .i64 x3.2.2.2, .int .i64 x4.2.2.2, .bool (decide (x3.2.2.2 = x4.2.2.2)), .bool (decide (x3.2.2.2 = x4.2.2.2))] [.veq (.bool (x10)) (.bool true), .veq (.bool (x3.2.2.2 == x4.2.2.2)) (.bool (decide (x3.2.2.2 = x4.2.2.2)))] (by kernel_rfl) (⟨b_t h4, eq_v⟩) ?_
 by_cases h5 : x3.2.2.2 = x4.2.2.2
 have hf := iteT h5 hf
 refine RW.seg hT 3 [.agg #[.bool x5.1.Leaf, .slice A25 x5.1.Pairs.length u25, .slice A26 x5.1.Keys.length u26, .slice A27 x5.1.Kids.length u27], .agg #[.bool x6.1.Leaf, .slice A28 x6.1.Pairs.length u28, .slice A29 x6.1.Keys.length u29, .slice A30 x6.1.Kids.length u30]] [(83, .bool true)] [.bool true, .agg #[.bool x5.1.Leaf, .slice A25 x5.1.Pairs.length u25, .slice A26 x5.1.Keys.length u26, .slice A27 x5.1.Kids.length u27], .agg #[.bool x6.1.Leaf, .slice A28 x6.1.Pairs.length u28, .slice A29 x6.1.Keys.length u29, .slice A30 x6.1.Kids.length u30]] [.veq (.bool (decide (x3.2.2.2 = x4.2.2.2))) (.bool true), .cells ⟨b8, 0, none⟩ [.bool x5.1.Leaf, .slice A25 x5.1.Pairs.length u25, .slice A26 x5.1.Keys.length u26, .slice A27 x5.1.Kids.length u27] 4, .cells ⟨b9, 0, none⟩ [.bool x6.1.Leaf, .slice A28 x6.1.Pairs.length u28, .slice A29 x6.1.Keys.length u29, .slice A30 x6.1.Kids.length u30] 4] (by kernel_rfl) (⟨bo_t h5, s.cells (i := 1) rfl rfl rfl, s.cells (i := 0) rfl rfl rfl⟩) ?_
 obtain ⟨x11, hx9, hf⟩ := bindS hf
 refine RW.op (by kernel_rfl) (OK.call' en20 (by kernel_rfl) (c20 (F := (.blk b9 (.cells #[.bool x6.1.Leaf, .slice A28 x6.1.Pairs.length u28, .slice A29 x6.1.Keys.length u29, .slice A30 x6.1.Kids.length u30] 26 (0, 0))) :: (.blk b8 (.cells #[.bool x5.1.Leaf, .slice A25 x5.1.Pairs.length u25, .slice A26 x5.1.Keys.length u26, .slice A27 x5.1.Kids.length u27] 26 (0, 0))) :: (.blk b7 (.cells #[.bool x4.2.2.1.Leaf, .slice A22 x4.2.2.1.Pairs.length u22, .slice A23 x4.2.2.1.Keys.length u23, .slice A24 x4.2.2.1.Kids.length u24] 26 (0, 0))) :: (.blk b6 (.cells #[.bool x4.1.Leaf, .slice A18 x4.1.Pairs.length u18, .slice A19 x4.1.Keys.length u19, .slice A20 x4.1.Kids.length u20] 26 (0, 0))) :: (.blk b5 (.cells #[.bool x3.2.2.1.Leaf, .slice A15 x3.2.2.1.Pairs.length u15, .slice A16 x3.2.2.1.Keys.length u16, .slice A17 x3.2.2.1.Kids.length u17] 26 (0, 0))) :: (.blk b4 (.cells #[.bool x3.1.Leaf, .slice A11 x3.1.Pairs.length u11, .slice A12 x3.1.Keys.length u12, .slice A13 x3.1.Kids.length u13] 26 (0, 0))) :: (.blk b3 (.cells #[.bool p2.Leaf, .slice A7 p2.Pairs.length u7, .slice A8 p2.Keys.length u8, .slice A9 p2.Kids.length u9] 26 (0, 0))) :: (.blk b2 (.cells #[.bool p1.Leaf, .slice A4 p1.Pairs.length u4, .slice A5 p1.Keys.length u5, .slice A6 p1.Kids.length u6] 26 (0, 0))) :: (.blk b1 (.cells #[.bool p0.Leaf, .slice A1 p0.Pairs.length u1, .slice A2 p0.Keys.length u2, .slice A3 p0.Kids.length u3] 26 (0, 0))) :: F) x5.1 x6.1 A25 u25 A26 u26 A27 u27 A28 u28 A29 u29 A30 u30 hc25 e25 hc26 e26 hc27 e27 hc28 e28 hc29 e29 hc30 e30 s hx9) ?_)
 intro X11 hX11
 refine fun _ _ hJ => hJ X11 ?_
 clear s
 intro I24 w27 s k37
 refine hX11 _ _ ?_
 replace e10 := e10.st k37
 replace e14 := e14.st k37
 replace e21 := e21.st k37
 replace e11 := e11.st k37
 replace e12 := e12.st k37
 replace e13 := e13.st k37
 replace e15 := e15.st k37
 replace e16 := e16.st k37
 replace e17 := e17.st k37
 replace e1 := e1.st k37
 replace e2 := e2.st k37
 replace e3 := e3.st k37
 replace e18 := e18.st k37
 replace e19 := e19.st k37
 replace e20 := e20.st k37
 replace e22 := e22.st k37
 replace e23 := e23.st k37
 replace e24 := e24.st k37
 replace e25 := e25.st k37
 replace e26 := e26.st k37
 replace e27 := e27.st k37
 replace e4 := e4.st k37
 replace e5 := e5.st k37
 replace e6 := e6.st k37
 replace e7 := e7.st k37
 replace e8 := e8.st k37
 replace e9 := e9.st k37
 replace e28 := e28.st k37
 replace e29 := e29.st k37
 replace e30 := e30.st k37
 replace kk := kk.trans k37
 refine RW.seg hT 1 [] [] [.bool x11] [] (by kernel_rfl) (trivial) ?_
 by_cases h6 : x11 = true
 have hf := iteT h6 hf
 refine RW.seg hT 6 [] [(88, .bool true), (91, .bool (decide (x5.2 = x6.2)))] [.bool true, .int .i64 x5.2, .int .i64 x6.2, .bool (decide (x5.2 = x6.2)), .bool (decide (x5.2 = x6.2)), .bool (decide (x5.2 = x6.2))] [.veq (.bool (x11)) (.bool true), .veq (.bool (x5.2 == x6.2)) (.bool (decide (x5.2 = x6.2)))] (by kernel_rfl) (⟨b_t h6, eq_v⟩) ?_
 refine RW.nil ?_
 replace s := s.pick [] 9 rfl
 exact fun X h => kc (by kernel_rfl) rfl (h I24 (decide (x5.2 = x6.2)) _ hf s kk)
 have hf := iteF h6 hf
 refine RW.seg hT 6 [] [(88, .bool false)] [.bool false, undef, undef, undef, .bool false, .bool false] [.veq (.bool (x11)) (.bool false)] (by kernel_rfl) (b_f h6) ?_
 refine RW.nil ?_
 replace s := s.pick [] 9 rfl
 exact fun X h => kc (by kernel_rfl) rfl (h I24 false _ hf s kk)
 have hf := iteF h5 hf
 refine RW.seg hT 11 [] [(83, .bool false)] [.bool false, undef, undef, undef, .bool false, .bool false, undef, undef, undef, .bool false, .bool false] [.veq (.bool (decide (x3.2.2.2 = x4.2.2.2))) (.bool false)] (by kernel_rfl) (bo_f h5) ?_
 refine RW.nil ?_
 replace s := s.pick [] 9 rfl
 exact fun X h => kc (by kernel_rfl) rfl (h I23 false _ hf s kk)
 have hf := iteF h4 hf
 refine RW.seg hT 16 [] [(78, .bool false)] [.bool false, undef, undef, undef, .bool false, .bool false, undef, undef, undef, .bool false, .bool false, undef, undef, undef, .bool false, .bool false] [.veq (.bool (x10)) (.bool false)] (by kernel_rfl) (b_f h4) ?_
 refine RW.nil ?_
 replace s := s.pick [] 9 rfl
 exact fun X h => kc (by kernel_rfl) rfl (h I23 false _ hf s kk)
 have hf := iteF h3 hf
 refine RW.seg hT 21 [] [(73, .bool false)] [.bool false, undef, undef, undef, .bool false, .bool false, undef, undef, undef, .bool false, .bool false, undef, undef, undef, .bool false, .bool false, undef, undef, undef, .bool false, .bool false] [.veq (.bool (x9)) (.bool false)] (by kernel_rfl) (b_f h3) ?_
 refine RW.nil ?_
 replace s := s.pick [] 9 rfl
 exact fun X h => kc (by kernel_rfl) rfl (h I22 false _ hf s kk)
 have hf := iteF h2 hf
 refine RW.seg hT 26 [] [(68, .bool false)] [.bool false, undef, undef, undef, .bool false, .bool false, undef, undef, undef, .bool false, .bool false, undef, undef, undef, .bool false, .bool false, undef, undef, undef, .bool false, .bool false, undef, undef, undef, .bool false, .bool false] [.veq (.bool (x8)) (.bool false)] (by kernel_rfl) (b_f h2) ?_
 refine RW.nil ?_
 replace s := s.pick [] 9 rfl
 exact fun X h => kc (by kernel_rfl) rfl (h I21 false _ hf s kk)
 refine WPK.region ?_
 obtain ⟨x12, hx10, hf⟩ := bindS hf
 refine RW.op (by kernel_rfl) (OK.call' en11 (by kernel_rfl) (c11 (F := (.blk b3 (.cells #[.bool p2.Leaf, .slice A7 p2.Pairs.length u7, .slice A8 p2.Keys.length u8, .slice A9 p2.Kids.length u9] 26 (0, 0))) :: (.blk b2 (.cells #[.bool p1.Leaf, .slice A4 p1.Pairs.length u4, .slice A5 p1.Keys.length u5, .slice A6 p1.Kids.length u6] 26 (0, 0))) :: (.blk b1 (.cells #[.bool p0.Leaf, .slice A1 p0.Pairs.length u1, .slice A2 p0.Keys.length u2, .slice A3 p0.Kids.length u3] 26 (0, 0))) :: F) s hx10) ?_)
 intro X12 hX12
 refine fun _ _ hJ => hJ X12 ?_
 clear s
 intro I25 w28 s k38
 refine hX12 _ _ ?_
 replace e1 := e1.st k38
 replace e2 := e2.st k38
 replace e3 := e3.st k38
 replace e4 := e4.st k38
 replace e5 := e5.st k38
 replace e6 := e6.st k38
 replace e7 := e7.st k38
 replace e8 := e8.st k38
 replace e9 := e9.st k38
 replace e10 := e10.st k38
 replace kk := kk.trans k38
 refine RW.seg hT 1 [] [(22, .bool (decide (¬ (x12 = true))))] [.bool (decide (¬ (x12 = true)))] [.veq (.bool (!x12)) (.bool (decide (¬ (x12 = true))))] (by kernel_rfl) (not_b) ?_
 by_cases h7 : ¬ (x12 = true)
 have hf := iteT h7 hf
 refine RW.seg hT 13 [] [(23, .bool true)] [.bool true, undef, undef, undef, undef, undef, undef, .bool true, .bool true, undef, undef, undef, .bool true] [.veq (.bool (decide (¬ (x12 = true)))) (.bool true)] (by kernel_rfl) (bo_t h7) ?_
 refine RW.nil ?_
 exact fun X h => kc (by kernel_rfl) rfl (h I25 true _ hf s kk e10 e7 e8 e9 e4 e5 e6 e1 e2 e3)
 have hf := iteF h7 hf
 refine RW.seg hT 4 [.agg #[.bool p0.Leaf, .slice A1 p0.Pairs.length u1, .slice A2 p0.Keys.length u2, .slice A3 p0.Kids.length u3], .agg #[.bool p1.Leaf, .slice A4 p1.Pairs.length u4, .slice A5 p1.Keys.length u5, .slice A6 p1.Kids.length u6], .agg #[.bool p2.Leaf, .slice A7 p2.Pairs.length u7, .slice A8 p2.Keys.length u8, .slice A9 p2.Kids.length u9]] [(23, .bool false)] [.bool false, .agg #[.bool p0.Leaf, .slice A1 p0.Pairs.length u1, .slice A2 p0.Keys.length u2, .slice A3 p0.Kids.length u3], .agg #[.bool p1.Leaf, .slice A4 p1.Pairs.length u4, .slice A5 p1.Keys.length u5, .slice A6 p1.Kids.length u6], .agg #[.bool p2.Leaf, .slice A7 p2.Pairs.length u7, .slice A8 p2.Keys.length u8, .slice A9 p2.Kids.length u9]] [.veq (.bool (decide (¬ (x12 = true)))) (.bool false), .cells ⟨b1, 0, none⟩ [.bool p0.Leaf, .slice A1 p0.Pairs.length u1, .slice A2 p0.Keys.length u2, .slice A3 p0.Kids.length u3] 4, .cells ⟨b2, 0, none⟩ [.bool p1.Leaf, .slice A4 p1.Pairs.length u4, .slice A5 p1.Keys.length u5, .slice A6 p1.Kids.length u6] 4, .cells ⟨b3, 0, none⟩ [.bool p2.Leaf, .slice A7 p2.Pairs.length u7, .slice A8 p2.Keys.length u8, .slice A9 p2.Kids.length u9] 4] (by kernel_rfl) (⟨bo_f h7, s.cells (i := 2) rfl rfl rfl, s.cells (i := 1) rfl rfl rfl, s.cells (i := 0) rfl rfl rfl⟩) ?_
 refine RW.op (by kernel_rfl) (OK.new hT (f := fun b => .slice (some ⟨b, 0, none⟩) 3 3) (cs := [.bool p0.Leaf, .slice A1 p0.Pairs.length u1, .slice A2 p0.Keys.length u2, .slice A3 p0.Kids.length u3, .bool p1.Leaf, .slice A4 p1.Pairs.length u4, .slice A5 p1.Keys.length u5, .slice A6 p1.Kids.length u6, .bool p2.Leaf, .slice A7 p2.Pairs.length u7, .slice A8 p2.Keys.length u8, .slice A9 p2.Kids.length u9]) (e := 26) (c := .tt) s (by kernel_rfl) trivial ?_)
 clear s
 rintro w29 b10 s k39 -
 replace e1 := e1.st k39
 replace e2 := e2.st k39
 replace e3 := e3.st k39
 replace e4 := e4.st k39
 replace e5 := e5.st k39
 replace e6 := e6.st k39
 replace e7 := e7.st k39
 replace e8 := e8.st k39
 replace e9 := e9.st k39
 replace e10 := e10.st k39
 replace kk := kk.trans k39
 have rp14 : RepL rp_T_api_Node I25 w29 [.bool p0.Leaf, .slice A1 p0.Pairs.length u1, .slice A2 p0.Keys.length u2, .slice A3 p0.Kids.length u3, .bool p1.Leaf, .slice A4 p1.Pairs.length u4, .slice A5 p1.Keys.length u5, .slice A6 p1.Kids.length u6, .bool p2.Leaf, .slice A7 p2.Pairs.length u7, .slice A8 p2.Keys.length u8, .slice A9 p2.Kids.length u9] ([p0, p1, p2] : List T_api_Node) := RepL.cons (c := [.bool p0.Leaf, .slice A1 p0.Pairs.length u1, .slice A2 p0.Keys.length u2, .slice A3 p0.Kids.length u3]) (d := [.bool p1.Leaf, .slice A4 p1.Pairs.length u4, .slice A5 p1.Keys.length u5, .slice A6 p1.Kids.length u6, .bool p2.Leaf, .slice A7 p2.Pairs.length u7, .slice A8 p2.Keys.length u8, .slice A9 p2.Kids.length u9]) (⟨[.bool p0.Leaf], [.slice A1 p0.Pairs.length u1, .slice A2 p0.Keys.length u2, .slice A3 p0.Kids.length u3], rfl, rfl, ⟨[.slice A1 p0.Pairs.length u1], [.slice A2 p0.Keys.length u2, .slice A3 p0.Kids.length u3], rfl, ⟨_, _, rfl, hc1.1, hc1.2, e1⟩, ⟨[.slice A2 p0.Keys.length u2], [.slice A3 p0.Kids.length u3], rfl, ⟨_, _, rfl, hc2.1, hc2.2, e2⟩, ⟨_, _, rfl, hc3.1, hc3.2, e3⟩⟩⟩⟩) (RepL.cons (c := [.bool p1.Leaf, .slice A4 p1.Pairs.length u4, .slice A5 p1.Keys.length u5, .slice A6 p1.Kids.length u6]) (d := [.bool p2.Leaf, .slice A7 p2.Pairs.length u7, .slice A8 p2.Keys.length u8, .slice A9 p2.Kids.length u9]) (⟨[.bool p1.Leaf], [.slice A4 p1.Pairs.length u4, .slice A5 p1.Keys.length u5, .slice A6 p1.Kids.length u6], rfl, rfl, ⟨[.slice A4 p1.Pairs.length u4], [.slice A5 p1.Keys.length u5, .slice A6 p1.Kids.length u6], rfl, ⟨_, _, rfl, hc4.1, hc4.2, e4⟩, ⟨[.slice A5 p1.Keys.length u5], [.slice A6 p1.Kids.length u6], rfl, ⟨_, _, rfl, hc5.1, hc5.2, e5⟩, ⟨_, _, rfl, hc6.1, hc6.2, e6⟩⟩⟩⟩) (RepL.cons (c := [.bool p2.Leaf, .slice A7 p2.Pairs.length u7, .slice A8 p2.Keys.length u8, .slice A9 p2.Kids.length u9]) (d := []) (⟨[.bool p2.Leaf], [.slice A7 p2.Pairs.length u7, .slice A8 p2.Keys.length u8, .slice A9 p2.Kids.length u9], rfl, rfl, ⟨[.slice A7 p2.Pairs.length u7], [.slice A8 p2.Keys.length u8, .slice A9 p2.Kids.length u9], rfl, ⟨_, _, rfl, hc7.1, hc7.2, e7⟩, ⟨[.slice A8 p2.Keys.length u8], [.slice A9 p2.Kids.length u9], rfl, ⟨_, _, rfl, hc8.1, hc8.2, e8⟩, ⟨_, _, rfl, hc9.1, hc9.2, e9⟩⟩⟩⟩) (RepL.nil)))
 replace s : St w1 M I25 ((.sl (.slice (some ⟨b10, 0, none⟩) 3 3) 26 4 3 [.bool p0.Leaf, .slice A1 p0.Pairs.length u1, .slice A2 p0.Keys.length u2, .slice A3 p0.Kids.length u3, .bool p1.Leaf, .slice A4 p1.Pairs.length u4, .slice A5 p1.Keys.length u5, .slice A6 p1.Kids.length u6, .bool p2.Leaf, .slice A7 p2.Pairs.length u7, .slice A8 p2.Keys.length u8, .slice A9 p2.Kids.length u9]) :: (.blk b3 (.cells #[.bool p2.Leaf, .slice A7 p2.Pairs.length u7, .slice A8 p2.Keys.length u8, .slice A9 p2.Kids.length u9] 26 (0, 0))) :: (.blk b2 (.cells #[.bool p1.Leaf, .slice A4 p1.Pairs.length u4, .slice A5 p1.Keys.length u5, .slice A6 p1.Kids.length u6] 26 (0, 0))) :: (.blk b1 (.cells #[.bool p0.Leaf, .slice A1 p0.Pairs.length u1, .slice A2 p0.Keys.length u2, .slice A3 p0.Kids.length u3] 26 (0, 0))) :: F) w29 := s.blkSl (i := 0) (n := 3) (c := 3) (size := 4) rfl rfl (Nat.le_refl _) (by decide)
 have sa1 := s
 obtain ⟨hc31, e31⟩ := St.lend s (i := 0) rfl rfl rp14
 have k40 := Kp.shut (I := I25) (w := w29) (p := .sl (.slice (some ⟨b10, 0, none⟩) 3 3) 26 4 3 [.bool p0.Leaf, .slice A1 p0.Pairs.length u1, .slice A2 p0.Keys.length u2, .slice A3 p0.Kids.length u3, .bool p1.Leaf, .slice A4 p1.Pairs.length u4, .slice A5 p1.Keys.length u5, .slice A6 p1.Kids.length u6, .bool p2.Leaf, .slice A7 p2.Pairs.length u7, .slice A8 p2.Keys.length u8, .slice A9 p2.Kids.length u9])
 replace s := s.shut 0 rfl
 obtain ⟨x13, hx11, hf⟩ := bindS hf
 refine RW.op (by kernel_rfl) (OK.call' en12 (by kernel_rfl) (c12 (F := (.blk b3 (.cells #[.bool p2.Leaf, .slice A7 p2.Pairs.length u7, .slice A8 p2.Keys.length u8, .slice A9 p2.Kids.length u9] 26 (0, 0))) :: (.blk b2 (.cells #[.bool p1.Leaf, .slice A4 p1.Pairs.length u4, .slice A5 p1.Keys.length u5, .slice A6 p1.Kids.length u6] 26 (0, 0))) :: (.blk b1 (.cells #[.bool p0.Leaf, .slice A1 p0.Pairs.length u1, .slice A2 p0.Keys.length u2, .slice A3 p0.Kids.length u3] 26 (0, 0))) :: F) ([p0, p1, p2] : List T_api_Node) (some ⟨b10, 0, none⟩) 3 hc31 e31 s hx11) ?_)
 intro X13 hX13
 refine fun _ _ hJ => hJ X13 ?_
 clear s
 intro I26 w30 s k41
 refine hX13 _ _ ?_
 have s' := St.back sa1 (i := 0) rfl s k41
 replace k41 := Kp.back sa1 (i := 0) rfl k41
 replace s := s'; clear s'
 obtain ⟨I27, s, k41⟩ : ∃ I : Nat → Prop, St w1 M I ((.sl (.slice (some ⟨b10, 0, none⟩) 3 3) 26 4 3 [.bool p0.Leaf, .slice A1 p0.Pairs.length u1, .slice A2 p0.Keys.length u2, .slice A3 p0.Kids.length u3, .bool p1.Leaf, .slice A4 p1.Pairs.length u4, .slice A5 p1.Keys.length u5, .slice A6 p1.Kids.length u6, .bool p2.Leaf, .slice A7 p2.Pairs.length u7, .slice A8 p2.Keys.length u8, .slice A9 p2.Kids.length u9]) :: (.blk b3 (.cells #[.bool p2.Leaf, .slice A7 p2.Pairs.length u7, .slice A8 p2.Keys.length u8, .slice A9 p2.Kids.length u9] 26 (0, 0))) :: (.blk b2 (.cells #[.bool p1.Leaf, .slice A4 p1.Pairs.length u4, .slice A5 p1.Keys.length u5, .slice A6 p1.Kids.length u6] 26 (0, 0))) :: (.blk b1 (.cells #[.bool p0.Leaf, .slice A1 p0.Pairs.length u1, .slice A2 p0.Keys.length u2, .slice A3 p0.Kids.length u3] 26 (0, 0))) :: F) w30 ∧ Kp _ _ I _ := ⟨_, s, k41⟩
 replace e1 := e1.st k41
 replace e2 := e2.st k41
 replace e3 := e3.st k41
 replace e4 := e4.st k41
 replace e5 := e5.st k41
 replace e6 := e6.st k41
 replace e7 := e7.st k41
 replace e8 := e8.st k41
 replace e9 := e9.st k41
 replace e10 := e10.st k41
 replace rp14 := rp14.st k41
 replace kk := kk.trans k41
 refine RW.seg hT 2 [] [(29, .bool (decide (¬ (x13 = true))))] [.bool (decide (¬ (x13 = true))), .bool (decide (¬ (x13 = true)))] [.veq (.bool (!x13)) (.bool (decide (¬ (x13 = true))))] (by kernel_rfl) (not_b) ?_
 by_cases h8 : ¬ (x13 = true)
 have hf := iteT h8 hf
 refine RW.seg hT 5 [] [(31, .bool true)] [.bool true, undef, undef, undef, .bool true] [.veq (.bool (decide (¬ (x13 = true)))) (.bool true)] (by kernel_rfl) (bo_t h8) ?_
 refine RW.nil ?_
 replace s := s.pick [1, 2, 3] 4 rfl
 exact fun X h => kc (by kernel_rfl) rfl (h I27 true _ hf s kk e10 e7 e8 e9 e4 e5 e6 e1 e2 e3)
 have hf := iteF h8 hf
 refine RW.seg hT 5 [] [(31, .bool false)] [.bool false, .slice A10 p3.length u10, .int .i64 (p3.length : Int), .bool (decide ((p3.length : Int) > 300)), .bool (decide ((p3.length : Int) > 300))] [.veq (.bool (decide (¬ (x13 = true)))) (.bool false)] (by kernel_rfl) (bo_f h8) ?_
 refine RW.nil ?_
 replace s := s.pick [1, 2, 3] 4 rfl
 exact fun X h => kc (by kernel_rfl) rfl (h I27 (decide ((p3.length : Int) > 300)) _ hf s kk e10 e7 e8 e9 e4 e5 e6 e1 e2 e3)
end Go.Proofs.Ytefjbhogpgihaaa
