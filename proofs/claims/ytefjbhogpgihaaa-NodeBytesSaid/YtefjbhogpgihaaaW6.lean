/- PRINTED BY sy.py: each call computes what the plain function of its number tells. -/
import Derived.Test.YtefjbhogpgihaaaW5
namespace Go.Proofs.Ytefjbhogpgihaaa
open Go Go.SX Go.RowKit
set_option maxRecDepth 100000
set_option linter.unusedVariables false
attribute [local irreducible] WPK RW RD Ret SX.Fin SX.Any opK RoundBeg RoundEnd RangeEnd Rounds
theorem c20 {w1 w : World} {M I : Nat → Prop} {F : List It} (p0 : T_api_Node) (p1 : T_api_Node) (A1 : Option Addr) (u1 : Nat) (A2 : Option Addr) (u2 : Nat) (A3 : Option Addr) (u3 : Nat) (A4 : Option Addr) (u4 : Nat) (A5 : Option Addr) (u5 : Nat) (A6 : Option Addr) (u6 : Nat) (hc1 : (p0.Pairs.length ≤ u1 ∧ u1 ≤ 9223372036854775807)) (e1 : Elems rp_T_api_Pair I w A1 p0.Pairs) (hc2 : (p0.Keys.length ≤ u2 ∧ u2 ≤ 9223372036854775807)) (e2 : Elems (Rp.slice (Rp.int .u8)) I w A2 p0.Keys) (hc3 : (p0.Kids.length ≤ u3 ∧ u3 ≤ 9223372036854775807)) (e3 : Elems (Rp.int .i64) I w A3 p0.Kids) (hc4 : (p1.Pairs.length ≤ u4 ∧ u4 ≤ 9223372036854775807)) (e4 : Elems rp_T_api_Pair I w A4 p1.Pairs) (hc5 : (p1.Keys.length ≤ u5 ∧ u5 ≤ 9223372036854775807)) (e5 : Elems (Rp.slice (Rp.int .u8)) I w A5 p1.Keys) (hc6 : (p1.Kids.length ≤ u6 ∧ u6 ≤ 9223372036854775807)) (e6 : Elems (Rp.int .i64) I w A6 p1.Kids) (s : St w1 M I (F) w) {r : Bool} (hf : g20 p0 p1 = some r) :
    Ret Try.prog 20 [.agg #[.bool p0.Leaf, .slice A1 p0.Pairs.length u1, .slice A2 p0.Keys.length u2, .slice A3 p0.Kids.length u3], .agg #[.bool p1.Leaf, .slice A4 p1.Pairs.length u4, .slice A5 p1.Keys.length u5, .slice A6 p1.Kids.length u6]] w fun v wz => ∀ X : Value → World → Prop, (∀ (I' : Nat → Prop) (w' : World), St w1 M I' (F) w' → Kp I w I' w' → X (.bool r) w') → X v wz := by
  have kk : Kp I w I w := Kp.refl
  unfold g20 at hf
  refine Ret.of Try.func20 rfl ?_
  refine WPK.seq ?_
  refine WPK.region ?_
  refine RW.op (by kernel_rfl) (OK.new hT (f := fun b => .pointer (some ⟨b, 0, none⟩)) (cs := [.bool p0.Leaf, .slice A1 p0.Pairs.length u1, .slice A2 p0.Keys.length u2, .slice A3 p0.Kids.length u3]) (e := 26) (c := .tt) s (by kernel_rfl) trivial ?_)
  clear s
  rintro w2 b1 s k1 -
  replace e1 := e1.st k1
  replace e2 := e2.st k1
  replace e3 := e3.st k1
  replace e4 := e4.st k1
  replace e5 := e5.st k1
  replace e6 := e6.st k1
  replace kk := kk.trans k1
  refine RW.op (by kernel_rfl) (OK.new hT (f := fun b => .pointer (some ⟨b, 0, none⟩)) (cs := [.bool p1.Leaf, .slice A4 p1.Pairs.length u4, .slice A5 p1.Keys.length u5, .slice A6 p1.Kids.length u6]) (e := 26) (c := .tt) s (by kernel_rfl) trivial ?_)
  clear s
  rintro w3 b2 s k2 -
  replace e1 := e1.st k2
  replace e2 := e2.st k2
  replace e3 := e3.st k2
  replace e4 := e4.st k2
  replace e5 := e5.st k2
  replace e6 := e6.st k2
  replace kk := kk.trans k2
  refine RW.seg hT 1 [] [] [.bool false] [] (by kernel_rfl) (trivial) ?_
  refine RW.nil ?_
  refine WPK.seq ?_
  refine WPK.seq ?_
  refine WPK.cut' (Kn fun D1 ds wz => ∀ X : Kont, (∀ (x1 : Bool), g20_j1 p0 p1 x1 = some r → X [(D1.getD 0 undef), (D1.getD 1 undef), .pointer (some ⟨b1, 0, none⟩), .pointer (some ⟨b2, 0, none⟩), .bool false, undef, undef, undef, (D1.getD 8 undef), (D1.getD 9 undef), (D1.getD 10 undef), (D1.getD 11 undef), (D1.getD 12 undef), (D1.getD 13 undef), (D1.getD 14 undef), (D1.getD 15 undef), (D1.getD 16 undef), (D1.getD 17 undef), (D1.getD 18 undef), (D1.getD 19 undef), (D1.getD 20 undef), (D1.getD 21 undef), (D1.getD 22 undef), (D1.getD 23 undef), (D1.getD 24 undef), (D1.getD 25 undef), (D1.getD 26 undef), (D1.getD 27 undef), (D1.getD 28 undef), (D1.getD 29 undef), (D1.getD 30 undef), (D1.getD 31 undef), (D1.getD 32 undef), (D1.getD 33 undef), (D1.getD 34 undef), (D1.getD 35 undef), (D1.getD 36 undef), (D1.getD 37 undef), (D1.getD 38 undef), .bool x1, undef, undef, undef, undef, undef, undef, undef, undef, undef, undef, undef, undef, undef, undef, undef, undef, undef, undef, undef, undef, undef, undef, undef, undef, undef, undef, undef, undef, undef, undef, undef, undef, undef, undef, undef, undef, undef, undef, undef, undef, undef, undef, undef, undef, undef, undef, undef, undef, undef, undef, undef, undef, undef, undef, undef, undef, undef, undef, undef, undef, undef, undef, undef, undef, undef, undef, undef, undef, undef, undef, undef, undef, undef, undef, undef, undef, undef] [] w3) → X D1 ds wz) ?_ ?_
  intro X1 hX1
  refine fun D1 _ _ hJ => hJ X1 ?_
  intro x1 hf
  refine hX1 _ _ _ ?_
  unfold g20_j1 at hf
  by_cases h1 : x1 = true
  have hf := iteT h1 hf
  refine WPK.condT (Eq.trans (b := .bool x1) (by kernel_rfl) (b_t h1)) ?_
  refine WPK.seq ?_
  refine WPK.region ?_
  refine RW.seg hT 1 [] [] [.bool false] [] (by kernel_rfl) (trivial) ?_
  refine RW.nil ?_
  refine WPK.ret (?_)
  obtain rfl := someS hf
  refine Fin.of (rs := [.tmp 4]) hT [] (.bool false) [] rfl (by kernel_rfl) (trivial) ?_
  replace s := s.pick [] 2 rfl
  exact fun X h => vc rfl (h I _ s kk)
  have hf := iteF h1 hf
  refine WPK.condF (Eq.trans (b := .bool x1) (by kernel_rfl) (b_f h1)) ?_
  refine WPK.skip ?_
  refine WPK.seq ?_
  refine WPK.seq ?_
  refine WPK.region ?_
  refine RW.seg hT 1 [] [] [.int .i64 0] [] (by kernel_rfl) (trivial) ?_
  refine RW.nil ?_
  refine WPK.block ?_
  refine WPK.loop' (J := fun n1 D2 ds wz => ∀ X : Kont, (∀ (I1 : Nat → Prop) (x2 : Int) (w' : World), g20_l2 p0 p1 n1 x2 = some r → St w1 M I1 ((.blk b2 (.cells #[.bool p1.Leaf, .slice A4 p1.Pairs.length u4, .slice A5 p1.Keys.length u5, .slice A6 p1.Kids.length u6] 26 (0, 0))) :: (.blk b1 (.cells #[.bool p0.Leaf, .slice A1 p0.Pairs.length u1, .slice A2 p0.Keys.length u2, .slice A3 p0.Kids.length u3] 26 (0, 0))) :: F) w' → Kp I w I1 w' → Elems rp_T_api_Pair I1 w' A4 p1.Pairs → Elems (Rp.slice (Rp.int .u8)) I1 w' A5 p1.Keys → Elems (Rp.int .i64) I1 w' A6 p1.Kids → Elems rp_T_api_Pair I1 w' A1 p0.Pairs → Elems (Rp.slice (Rp.int .u8)) I1 w' A2 p0.Keys → Elems (Rp.int .i64) I1 w' A3 p0.Kids → X [(D2.getD 0 undef), (D2.getD 1 undef), .pointer (some ⟨b1, 0, none⟩), .pointer (some ⟨b2, 0, none⟩), .bool false, .int .i64 x2, undef, undef, (D2.getD 8 undef), (D2.getD 9 undef), (D2.getD 10 undef), (D2.getD 11 undef), (D2.getD 12 undef), (D2.getD 13 undef), (D2.getD 14 undef), (D2.getD 15 undef), (D2.getD 16 undef), (D2.getD 17 undef), (D2.getD 18 undef), (D2.getD 19 undef), (D2.getD 20 undef), (D2.getD 21 undef), (D2.getD 22 undef), (D2.getD 23 undef), (D2.getD 24 undef), (D2.getD 25 undef), (D2.getD 26 undef), (D2.getD 27 undef), (D2.getD 28 undef), (D2.getD 29 undef), (D2.getD 30 undef), (D2.getD 31 undef), (D2.getD 32 undef), (D2.getD 33 undef), (D2.getD 34 undef), (D2.getD 35 undef), (D2.getD 36 undef), (D2.getD 37 undef), (D2.getD 38 undef), (D2.getD 39 undef), (D2.getD 40 undef), (D2.getD 41 undef), (D2.getD 42 undef), (D2.getD 43 undef), (D2.getD 44 undef), (D2.getD 45 undef), (D2.getD 46 undef), (D2.getD 47 undef), (D2.getD 48 undef), (D2.getD 49 undef), (D2.getD 50 undef), (D2.getD 51 undef), (D2.getD 52 undef), (D2.getD 53 undef), (D2.getD 54 undef), (D2.getD 55 undef), (D2.getD 56 undef), (D2.getD 57 undef), (D2.getD 58 undef), (D2.getD 59 undef), (D2.getD 60 undef), (D2.getD 61 undef), (D2.getD 62 undef), (D2.getD 63 undef), (D2.getD 64 undef), (D2.getD 65 undef), (D2.getD 66 undef), (D2.getD 67 undef), (D2.getD 68 undef), (D2.getD 69 undef), (D2.getD 70 undef), (D2.getD 71 undef), (D2.getD 72 undef), (D2.getD 73 undef), (D2.getD 74 undef), (D2.getD 75 undef), (D2.getD 76 undef), (D2.getD 77 undef), (D2.getD 78 undef), undef, undef, undef, undef, undef, undef, undef, undef, undef, undef, undef, undef, undef, undef, undef, undef, undef, undef, undef, undef, undef, undef, undef, undef, undef, undef, undef, undef, undef, undef, undef, undef, undef, undef, undef, undef, undef, undef] [] w') → X D2 ds wz) FUEL (fun X h => kc (by kernel_rfl) rfl (h I 0 _ hf s kk e4 e5 e6 e1 e2 e3)) (fun _ _ _ hJ => hJ (fun _ _ _ => False) (by intro I1 x2 w4 hf s kk e4 e5 e6 e1 e2 e3; exact noneS hf)) ?_
  intro X2 hX2
  refine fun n1 D2 _ _ hJ => hJ (X2 n1) ?_
  clear s
  intro I1 x2 w4 hf s kk e4 e5 e6 e1 e2 e3
  refine hX2 _ _ _ _ ?_
  replace hf : g20_l2B p0 p1 (g20_l2 p0 p1 n1) x2 = some r := hf
  generalize hrec1 : g20_l2 p0 p1 n1 = rec1 at hf
  unfold g20_l2B at hf
  refine WPK.seq ?_
  refine WPK.seq ?_
  refine WPK.region ?_
  refine RW.seg hT 5 [.slice A1 p0.Pairs.length u1] [] [.int .i64 x2, .pointer (some ⟨b1, 1, none⟩), .slice A1 p0.Pairs.length u1, .int .i64 (p0.Pairs.length : Int), .bool (decide (x2 < (p0.Pairs.length : Int)))] [.cell ⟨b1, 1, none⟩ (.slice A1 p0.Pairs.length u1)] (by kernel_rfl) (s.cell (i := 1) (off := 1) rfl rfl) ?_
  refine RW.nil ?_
  by_cases h2 : x2 < (p0.Pairs.length : Int)
  have hf := iteT h2 hf
  refine WPK.condT (Eq.trans (b := .bool (decide (x2 < (p0.Pairs.length : Int)))) (by kernel_rfl) (bo_t h2)) ?_
  refine WPK.skip ?_
  refine WPK.seq ?_
  refine WPK.block ?_
  refine WPK.seq ?_
  have e1S1 := e1
  have e4S1 := e4
  have e5S1 := e5
  have e6S1 := e6
  have e2S1 := e2
  have e3S1 := e3
  have kS1 : Kp I1 w4 I1 w4 := Kp.refl
  refine WPK.drawM (fun w' => ∃ I' : Nat → Prop, St w1 M I' ((.blk b2 (.cells #[.bool p1.Leaf, .slice A4 p1.Pairs.length u4, .slice A5 p1.Keys.length u5, .slice A6 p1.Kids.length u6] 26 (0, 0))) :: (.blk b1 (.cells #[.bool p0.Leaf, .slice A1 p0.Pairs.length u1, .slice A2 p0.Keys.length u2, .slice A3 p0.Kids.length u3] 26 (0, 0))) :: F) w' ∧ Kp I1 w4 I' w') 32 [0, 1, 0, 7, 15, 31, 63, 0, 128, 0, 896, 1920, 3968, 8064, 16383, 32767, 65535, 131071, 65535, 524287, 1048575, 2097151, 4194303, 65535, 8454143, 65535, 58785791, 125894655, 260112383, 528547839, 1073741823, 2147483647] (by kernel_rfl) (by kernel_rfl) ?_
  intro ht1 w5 hd1
  have k3 := Kp.dr s hd1
  replace s := s.dr hd1
  replace e1 := e1.st k3
  replace e4 := e4.st k3
  replace e5 := e5.st k3
  replace e6 := e6.st k3
  replace e2 := e2.st k3
  replace e3 := e3.st k3
  replace kk := kk.trans k3
  replace kS1 := kS1.trans k3
  obtain ⟨x3, hx1, hf⟩ := bindS hf
  obtain ⟨h3, hx1⟩ := getS hx1
  obtain ⟨b3, o1, rfl⟩ := Elems.opn e1 hx1
  obtain ⟨cs1, hr1, ha1, hb1⟩ := Elems.getI e1S1 hx1
  obtain ⟨cs2, cs3, rfl, hr2, hr3⟩ := hr1
  obtain ⟨A7, u7, rfl, q1, q2, e7⟩ := hr2
  have hc7 := And.intro q1 q2
  obtain ⟨A8, u8, rfl, q3, q4, e8⟩ := hr3
  have hc8 := And.intro q3 q4
  have e7S1 := e7
  replace e7 := e7.st kS1
  have e8S1 := e8
  replace e8 := e8.st kS1
  obtain ⟨x4, hx2, hf⟩ := bindS hf
  obtain ⟨h4, hx2⟩ := getS hx2
  obtain ⟨b4, o2, rfl⟩ := Elems.opn e4 hx2
  obtain ⟨cs4, hr4, ha2, hb2⟩ := Elems.getI e4S1 hx2
  obtain ⟨cs5, cs6, rfl, hr5, hr6⟩ := hr4
  obtain ⟨A9, u9, rfl, q5, q6, e9⟩ := hr5
  have hc9 := And.intro q5 q6
  obtain ⟨A10, u10, rfl, q7, q8, e10⟩ := hr6
  have hc10 := And.intro q7 q8
  have e9S1 := e9
  replace e9 := e9.st kS1
  have e10S1 := e10
  replace e10 := e10.st kS1
  refine RD.segM hT ht1 (by kernel_rfl) [0, 1, 2, 3, 4, 5, 6, 7, 8, 9, 10, 11, 12, 13, 14] [.slice (some ⟨b3, o1, none⟩) p0.Pairs.length u1, .slice A7 x3.Key.length u7, .string (strOfNums x3.Key), .slice (some ⟨b4, o2, none⟩) p1.Pairs.length u4, .slice A9 x4.Key.length u9, .string (strOfNums x4.Key)] [(61, .bool (decide ((strOfNums x3.Key).toList ≠ (strOfNums x4.Key).toList)))] [.pointer (some ⟨b1, 1, none⟩), .slice (some ⟨b3, o1, none⟩) p0.Pairs.length u1, .int .i64 x2, .pointer (some ⟨b3, o1 + x2.toNat * 2, none⟩), .pointer (some ⟨b3, o1 + x2.toNat * 2, none⟩), .slice A7 x3.Key.length u7, .string (strOfNums x3.Key), .pointer (some ⟨b2, 1, none⟩), .slice (some ⟨b4, o2, none⟩) p1.Pairs.length u4, .int .i64 x2, .pointer (some ⟨b4, o2 + x2.toNat * 2, none⟩), .pointer (some ⟨b4, o2 + x2.toNat * 2, none⟩), .slice A9 x4.Key.length u9, .string (strOfNums x4.Key), .bool (decide ((strOfNums x3.Key).toList ≠ (strOfNums x4.Key).toList))] [.cell ⟨b1, 1, none⟩ (.slice (some ⟨b3, o1, none⟩) p0.Pairs.length u1), .idx x2 p0.Pairs.length, .cell ⟨b3, o1 + x2.toNat * 2, none⟩ (.slice A7 x3.Key.length u7), .bytes A7 x3.Key.length (strOfNums x3.Key), .cell ⟨b2, 1, none⟩ (.slice (some ⟨b4, o2, none⟩) p1.Pairs.length u4), .idx x2 p1.Pairs.length, .cell ⟨b4, o2 + x2.toNat * 2, none⟩ (.slice A9 x4.Key.length u9), .bytes A9 x4.Key.length (strOfNums x4.Key), .veq (.bool (!((strOfNums x3.Key).toList == (strOfNums x4.Key).toList))) (.bool (decide ((strOfNums x3.Key).toList ≠ (strOfNums x4.Key).toList)))] (by kernel_rfl) (by rintro w' ⟨I', s, k⟩; have e1 := e1S1.st k; have e4 := e4S1.st k; have e5 := e5S1.st k; have e6 := e6S1.st k; have e2 := e2S1.st k; have e3 := e3S1.st k; have e7 := e7S1.st k; have e8 := e8S1.st k; have e9 := e9S1.st k; have e10 := e10S1.st k; have ha1 := ha1.st k hb1; have ha2 := ha2.st k hb2; exact ⟨s.cell (i := 1) (off := 1) rfl rfl, h3, ha1 0 _ rfl, Elems.bytes e7, s.cell (i := 0) (off := 1) rfl rfl, h4, ha2 0 _ rfl, Elems.bytes e9, bne_v⟩) ⟨_, s.pick [0, 1] 2 rfl, kS1⟩ ?_
  by_cases h5 : (strOfNums x3.Key).toList ≠ (strOfNums x4.Key).toList
  have hf := iteT h5 hf
  refine RD.segM hT ht1 (by kernel_rfl) [15, 16, 17, 18, 19, 20, 21, 22, 23, 24, 25, 26, 27, 28, 29, 30, 31] [] [(62, .bool true)] [.bool true, undef, undef, undef, undef, undef, undef, undef, undef, undef, undef, undef, undef, undef, undef, undef, .bool true] [.veq (.bool (decide ((strOfNums x3.Key).toList ≠ (strOfNums x4.Key).toList))) (.bool true)] (by kernel_rfl) (by rintro w' ⟨I', s, k⟩; have e1 := e1S1.st k; have e4 := e4S1.st k; have e5 := e5S1.st k; have e6 := e6S1.st k; have e2 := e2S1.st k; have e3 := e3S1.st k; have e7 := e7S1.st k; have e8 := e8S1.st k; have e9 := e9S1.st k; have e10 := e10S1.st k; exact bo_t h5) ⟨_, s.pick [0, 1] 2 rfl, kS1⟩ ?_
  refine RD.done (by kernel_rfl) ?_
  refine WPK.condT (by kernel_rfl) ?_
  refine WPK.seq ?_
  refine WPK.region ?_
  refine RW.seg hT 1 [] [] [.bool false] [] (by kernel_rfl) (trivial) ?_
  refine RW.nil ?_
  refine WPK.ret (blockQ.ret (blockQ.ret (?_)))
  obtain rfl := someS hf
  refine Fin.of (rs := [.tmp 4]) hT [] (.bool false) [] rfl (by kernel_rfl) (trivial) ?_
  replace s := s.pick [] 2 rfl
  exact fun X h => vc rfl (h I1 _ s kk)
  have hf := iteF h5 hf
  obtain ⟨x5, hx3, hf⟩ := bindS hf
  obtain ⟨h6, hx3⟩ := getS hx3
  obtain ⟨cs7, hr7, ha3, hb3⟩ := Elems.getI e1S1 hx3
  obtain ⟨cs8, cs9, rfl, hr8, hr9⟩ := hr7
  obtain ⟨A11, u11, rfl, q9, q10, e11⟩ := hr8
  have hc11 := And.intro q9 q10
  obtain ⟨A12, u12, rfl, q11, q12, e12⟩ := hr9
  have hc12 := And.intro q11 q12
  have e11S1 := e11
  replace e11 := e11.st kS1
  have e12S1 := e12
  replace e12 := e12.st kS1
  obtain ⟨x6, hx4, hf⟩ := bindS hf
  obtain ⟨h7, hx4⟩ := getS hx4
  obtain ⟨cs10, hr10, ha4, hb4⟩ := Elems.getI e4S1 hx4
  obtain ⟨cs11, cs12, rfl, hr11, hr12⟩ := hr10
  obtain ⟨A13, u13, rfl, q13, q14, e13⟩ := hr11
  have hc13 := And.intro q13 q14
  obtain ⟨A14, u14, rfl, q15, q16, e14⟩ := hr12
  have hc14 := And.intro q15 q16
  have e13S1 := e13
  replace e13 := e13.st kS1
  have e14S1 := e14
  replace e14 := e14.st kS1
  refine RD.segM hT ht1 (by kernel_rfl) [15, 16, 17, 18, 19, 20, 21, 22, 23, 24, 25, 26, 27, 28, 29, 30, 31] [.slice (some ⟨b3, o1, none⟩) p0.Pairs.length u1, .slice A12 x5.Val.length u12, .string (strOfNums x5.Val), .slice (some ⟨b4, o2, none⟩) p1.Pairs.length u4, .slice A14 x6.Val.length u14, .string (strOfNums x6.Val)] [(62, .bool false), (77, .bool (decide ((strOfNums x5.Val).toList ≠ (strOfNums x6.Val).toList)))] [.bool false, .pointer (some ⟨b1, 1, none⟩), .slice (some ⟨b3, o1, none⟩) p0.Pairs.length u1, .int .i64 x2, .pointer (some ⟨b3, o1 + x2.toNat * 2, none⟩), .pointer (some ⟨b3, o1 + x2.toNat * 2 + 1, none⟩), .slice A12 x5.Val.length u12, .string (strOfNums x5.Val), .pointer (some ⟨b2, 1, none⟩), .slice (some ⟨b4, o2, none⟩) p1.Pairs.length u4, .int .i64 x2, .pointer (some ⟨b4, o2 + x2.toNat * 2, none⟩), .pointer (some ⟨b4, o2 + x2.toNat * 2 + 1, none⟩), .slice A14 x6.Val.length u14, .string (strOfNums x6.Val), .bool (decide ((strOfNums x5.Val).toList ≠ (strOfNums x6.Val).toList)), .bool (decide ((strOfNums x5.Val).toList ≠ (strOfNums x6.Val).toList))] [.veq (.bool (decide ((strOfNums x3.Key).toList ≠ (strOfNums x4.Key).toList))) (.bool false), .cell ⟨b1, 1, none⟩ (.slice (some ⟨b3, o1, none⟩) p0.Pairs.length u1), .idx x2 p0.Pairs.length, .cell ⟨b3, o1 + x2.toNat * 2 + 1, none⟩ (.slice A12 x5.Val.length u12), .bytes A12 x5.Val.length (strOfNums x5.Val), .cell ⟨b2, 1, none⟩ (.slice (some ⟨b4, o2, none⟩) p1.Pairs.length u4), .idx x2 p1.Pairs.length, .cell ⟨b4, o2 + x2.toNat * 2 + 1, none⟩ (.slice A14 x6.Val.length u14), .bytes A14 x6.Val.length (strOfNums x6.Val), .veq (.bool (!((strOfNums x5.Val).toList == (strOfNums x6.Val).toList))) (.bool (decide ((strOfNums x5.Val).toList ≠ (strOfNums x6.Val).toList)))] (by kernel_rfl) (by rintro w' ⟨I', s, k⟩; have e1 := e1S1.st k; have e4 := e4S1.st k; have e5 := e5S1.st k; have e6 := e6S1.st k; have e2 := e2S1.st k; have e3 := e3S1.st k; have e7 := e7S1.st k; have e8 := e8S1.st k; have e9 := e9S1.st k; have e10 := e10S1.st k; have e11 := e11S1.st k; have e12 := e12S1.st k; have e13 := e13S1.st k; have e14 := e14S1.st k; have ha3 := ha3.st k hb3; have ha4 := ha4.st k hb4; exact ⟨bo_f h5, s.cell (i := 1) (off := 1) rfl rfl, h6, ha3 1 _ rfl, Elems.bytes e12, s.cell (i := 0) (off := 1) rfl rfl, h7, ha4 1 _ rfl, Elems.bytes e14, bne_v⟩) ⟨_, s.pick [0, 1] 2 rfl, kS1⟩ ?_
  refine RD.done (by kernel_rfl) ?_
  by_cases h8 : (strOfNums x5.Val).toList ≠ (strOfNums x6.Val).toList
  have hf := iteT h8 hf
  refine WPK.condT (Eq.trans (b := .bool (decide ((strOfNums x5.Val).toList ≠ (strOfNums x6.Val).toList))) (by kernel_rfl) (bo_t h8)) ?_
  refine WPK.seq ?_
  refine WPK.region ?_
  refine RW.seg hT 1 [] [] [.bool false] [] (by kernel_rfl) (trivial) ?_
  refine RW.nil ?_
  refine WPK.ret (blockQ.ret (blockQ.ret (?_)))
  obtain rfl := someS hf
  refine Fin.of (rs := [.tmp 4]) hT [] (.bool false) [] rfl (by kernel_rfl) (trivial) ?_
  replace s := s.pick [] 2 rfl
  exact fun X h => vc rfl (h I1 _ s kk)
  have hf := iteF h8 hf
  refine WPK.condF (Eq.trans (b := .bool (decide ((strOfNums x5.Val).toList ≠ (strOfNums x6.Val).toList))) (by kernel_rfl) (bo_f h8)) ?_
  refine WPK.skip ?_
  refine WPK.region ?_
  refine RW.seg hT 3 [] [] [.int .i64 x2, .int .i64 (IntKind.i64.wrap (x2 + 1)), .int .i64 (IntKind.i64.wrap (x2 + 1))] [] (by kernel_rfl) (trivial) ?_
  refine RW.nil ?_
  subst hrec1
  exact ⟨n1, Nat.le_refl _, fun X h => kc (by kernel_rfl) rfl (h I1 (IntKind.i64.wrap (x2 + 1)) _ hf s kk e4 e5 e6 e1 e2 e3)⟩
  have hf := iteF h2 hf
  refine WPK.condF (Eq.trans (b := .bool (decide (x2 < (p0.Pairs.length : Int)))) (by kernel_rfl) (bo_f h2)) ?_
  refine WPK.exit (blockQ.same ?_)
  refine WPK.seq ?_
  refine WPK.seq ?_
  refine WPK.region ?_
  refine RW.seg hT 1 [] [] [.int .i64 0] [] (by kernel_rfl) (trivial) ?_
  refine RW.nil ?_
  refine WPK.block ?_
  refine WPK.loop' (J := fun n2 D3 ds wz => ∀ X : Kont, (∀ (I2 : Nat → Prop) (x7 : Int) (w' : World), g20_l3 p0 p1 n2 x7 = some r → St w1 M I2 ((.blk b2 (.cells #[.bool p1.Leaf, .slice A4 p1.Pairs.length u4, .slice A5 p1.Keys.length u5, .slice A6 p1.Kids.length u6] 26 (0, 0))) :: (.blk b1 (.cells #[.bool p0.Leaf, .slice A1 p0.Pairs.length u1, .slice A2 p0.Keys.length u2, .slice A3 p0.Kids.length u3] 26 (0, 0))) :: F) w' → Kp I w I2 w' → Elems rp_T_api_Pair I2 w' A4 p1.Pairs → Elems (Rp.slice (Rp.int .u8)) I2 w' A5 p1.Keys → Elems (Rp.int .i64) I2 w' A6 p1.Kids → Elems rp_T_api_Pair I2 w' A1 p0.Pairs → Elems (Rp.slice (Rp.int .u8)) I2 w' A2 p0.Keys → Elems (Rp.int .i64) I2 w' A3 p0.Kids → X [(D3.getD 0 undef), (D3.getD 1 undef), .pointer (some ⟨b1, 0, none⟩), .pointer (some ⟨b2, 0, none⟩), .bool false, (D3.getD 5 undef), .int .i64 x7, undef, (D3.getD 8 undef), (D3.getD 9 undef), (D3.getD 10 undef), (D3.getD 11 undef), (D3.getD 12 undef), (D3.getD 13 undef), (D3.getD 14 undef), (D3.getD 15 undef), (D3.getD 16 undef), (D3.getD 17 undef), (D3.getD 18 undef), (D3.getD 19 undef), (D3.getD 20 undef), (D3.getD 21 undef), (D3.getD 22 undef), (D3.getD 23 undef), (D3.getD 24 undef), (D3.getD 25 undef), (D3.getD 26 undef), (D3.getD 27 undef), (D3.getD 28 undef), (D3.getD 29 undef), (D3.getD 30 undef), (D3.getD 31 undef), (D3.getD 32 undef), (D3.getD 33 undef), (D3.getD 34 undef), (D3.getD 35 undef), (D3.getD 36 undef), (D3.getD 37 undef), (D3.getD 38 undef), (D3.getD 39 undef), (D3.getD 40 undef), (D3.getD 41 undef), (D3.getD 42 undef), (D3.getD 43 undef), (D3.getD 44 undef), (D3.getD 45 undef), (D3.getD 46 undef), (D3.getD 47 undef), (D3.getD 48 undef), (D3.getD 49 undef), (D3.getD 50 undef), (D3.getD 51 undef), (D3.getD 52 undef), (D3.getD 53 undef), (D3.getD 54 undef), (D3.getD 55 undef), (D3.getD 56 undef), (D3.getD 57 undef), (D3.getD 58 undef), (D3.getD 59 undef), (D3.getD 60 undef), (D3.getD 61 undef), (D3.getD 62 undef), (D3.getD 63 undef), (D3.getD 64 undef), (D3.getD 65 undef), (D3.getD 66 undef), (D3.getD 67 undef), (D3.getD 68 undef), (D3.getD 69 undef), (D3.getD 70 undef), (D3.getD 71 undef), (D3.getD 72 undef), (D3.getD 73 undef), (D3.getD 74 undef), (D3.getD 75 undef), (D3.getD 76 undef), (D3.getD 77 undef), (D3.getD 78 undef), (D3.getD 79 undef), (D3.getD 80 undef), (D3.getD 81 undef), (D3.getD 82 undef), (D3.getD 83 undef), (D3.getD 84 undef), (D3.getD 85 undef), (D3.getD 86 undef), (D3.getD 87 undef), (D3.getD 88 undef), (D3.getD 89 undef), (D3.getD 90 undef), (D3.getD 91 undef), (D3.getD 92 undef), (D3.getD 93 undef), (D3.getD 94 undef), (D3.getD 95 undef), (D3.getD 96 undef), (D3.getD 97 undef), (D3.getD 98 undef), undef, undef, undef, undef, undef, undef, undef, undef, undef, undef, undef, undef, undef, undef, undef, undef, undef, undef] [] w') → X D3 ds wz) FUEL (fun X h => kc (by kernel_rfl) rfl (h I1 0 _ hf s kk e4 e5 e6 e1 e2 e3)) (fun _ _ _ hJ => hJ (fun _ _ _ => False) (by intro I2 x7 w6 hf s kk e4 e5 e6 e1 e2 e3; exact noneS hf)) ?_
  intro X3 hX3
  refine fun n2 D3 _ _ hJ => hJ (X3 n2) ?_
  clear s
  intro I2 x7 w6 hf s kk e4 e5 e6 e1 e2 e3
  refine hX3 _ _ _ _ ?_
  replace hf : g20_l3B p0 p1 (g20_l3 p0 p1 n2) x7 = some r := hf
  generalize hrec2 : g20_l3 p0 p1 n2 = rec2 at hf
  unfold g20_l3B at hf
  refine WPK.seq ?_
  refine WPK.seq ?_
  refine WPK.region ?_
  refine RW.seg hT 5 [.slice A2 p0.Keys.length u2] [] [.int .i64 x7, .pointer (some ⟨b1, 2, none⟩), .slice A2 p0.Keys.length u2, .int .i64 (p0.Keys.length : Int), .bool (decide (x7 < (p0.Keys.length : Int)))] [.cell ⟨b1, 2, none⟩ (.slice A2 p0.Keys.length u2)] (by kernel_rfl) (s.cell (i := 1) (off := 2) rfl rfl) ?_
  refine RW.nil ?_
  by_cases h9 : x7 < (p0.Keys.length : Int)
  have hf := iteT h9 hf
  refine WPK.condT (Eq.trans (b := .bool (decide (x7 < (p0.Keys.length : Int)))) (by kernel_rfl) (bo_t h9)) ?_
  refine WPK.skip ?_
  refine WPK.seq ?_
  refine WPK.block ?_
  refine WPK.seq ?_
  have e2S2 := e2
  have e4S2 := e4
  have e5S2 := e5
  have e6S2 := e6
  have e1S2 := e1
  have e3S2 := e3
  have kS2 : Kp I2 w6 I2 w6 := Kp.refl
  refine WPK.drawM (fun w' => ∃ I' : Nat → Prop, St w1 M I' ((.blk b2 (.cells #[.bool p1.Leaf, .slice A4 p1.Pairs.length u4, .slice A5 p1.Keys.length u5, .slice A6 p1.Kids.length u6] 26 (0, 0))) :: (.blk b1 (.cells #[.bool p0.Leaf, .slice A1 p0.Pairs.length u1, .slice A2 p0.Keys.length u2, .slice A3 p0.Kids.length u3] 26 (0, 0))) :: F) w' ∧ Kp I2 w6 I' w') 13 [0, 1, 0, 7, 15, 31, 0, 64, 0, 448, 960, 1984, 4095] (by kernel_rfl) (by kernel_rfl) ?_
  intro ht2 w7 hd2
  have k4 := Kp.dr s hd2
  replace s := s.dr hd2
  replace e2 := e2.st k4
  replace e4 := e4.st k4
  replace e5 := e5.st k4
  replace e6 := e6.st k4
  replace e1 := e1.st k4
  replace e3 := e3.st k4
  replace kk := kk.trans k4
  replace kS2 := kS2.trans k4
  obtain ⟨x8, hx5, hf⟩ := bindS hf
  obtain ⟨h10, hx5⟩ := getS hx5
  obtain ⟨b5, o3, rfl⟩ := Elems.opn e2 hx5
  obtain ⟨cs13, hr13, ha5, hb5⟩ := Elems.getI e2S2 hx5
  obtain ⟨A15, u15, rfl, q17, q18, e15⟩ := hr13
  have hc15 := And.intro q17 q18
  have e15S2 := e15
  replace e15 := e15.st kS2
  obtain ⟨x9, hx6, hf⟩ := bindS hf
  obtain ⟨h11, hx6⟩ := getS hx6
  obtain ⟨b6, o4, rfl⟩ := Elems.opn e5 hx6
  obtain ⟨cs14, hr14, ha6, hb6⟩ := Elems.getI e5S2 hx6
  obtain ⟨A16, u16, rfl, q19, q20, e16⟩ := hr14
  have hc16 := And.intro q19 q20
  have e16S2 := e16
  replace e16 := e16.st kS2
  refine RD.segM hT ht2 (by kernel_rfl) [0, 1, 2, 3, 4, 5, 6, 7, 8, 9, 10, 11, 12] [.slice (some ⟨b5, o3, none⟩) p0.Keys.length u2, .slice A15 x8.length u15, .string (strOfNums x8), .slice (some ⟨b6, o4, none⟩) p1.Keys.length u5, .slice A16 x9.length u16, .string (strOfNums x9)] [(98, .bool (decide ((strOfNums x8).toList ≠ (strOfNums x9).toList)))] [.pointer (some ⟨b1, 2, none⟩), .slice (some ⟨b5, o3, none⟩) p0.Keys.length u2, .int .i64 x7, .pointer (some ⟨b5, o3 + x7.toNat * 1, none⟩), .slice A15 x8.length u15, .string (strOfNums x8), .pointer (some ⟨b2, 2, none⟩), .slice (some ⟨b6, o4, none⟩) p1.Keys.length u5, .int .i64 x7, .pointer (some ⟨b6, o4 + x7.toNat * 1, none⟩), .slice A16 x9.length u16, .string (strOfNums x9), .bool (decide ((strOfNums x8).toList ≠ (strOfNums x9).toList))] [.cell ⟨b1, 2, none⟩ (.slice (some ⟨b5, o3, none⟩) p0.Keys.length u2), .idx x7 p0.Keys.length, .cell ⟨b5, o3 + x7.toNat * 1, none⟩ (.slice A15 x8.length u15), .bytes A15 x8.length (strOfNums x8), .cell ⟨b2, 2, none⟩ (.slice (some ⟨b6, o4, none⟩) p1.Keys.length u5), .idx x7 p1.Keys.length, .cell ⟨b6, o4 + x7.toNat * 1, none⟩ (.slice A16 x9.length u16), .bytes A16 x9.length (strOfNums x9), .veq (.bool (!((strOfNums x8).toList == (strOfNums x9).toList))) (.bool (decide ((strOfNums x8).toList ≠ (strOfNums x9).toList)))] (by kernel_rfl) (by rintro w' ⟨I', s, k⟩; have e2 := e2S2.st k; have e4 := e4S2.st k; have e5 := e5S2.st k; have e6 := e6S2.st k; have e1 := e1S2.st k; have e3 := e3S2.st k; have e15 := e15S2.st k; have e16 := e16S2.st k; have ha5 := ha5.st k hb5; have ha6 := ha6.st k hb6; exact ⟨s.cell (i := 1) (off := 2) rfl rfl, h10, ha5 0 _ rfl, Elems.bytes e15, s.cell (i := 0) (off := 2) rfl rfl, h11, ha6 0 _ rfl, Elems.bytes e16, bne_v⟩) ⟨_, s.pick [0, 1] 2 rfl, kS2⟩ ?_
  refine RD.done (by kernel_rfl) ?_
  by_cases h12 : (strOfNums x8).toList ≠ (strOfNums x9).toList
  have hf := iteT h12 hf
  refine WPK.condT (Eq.trans (b := .bool (decide ((strOfNums x8).toList ≠ (strOfNums x9).toList))) (by kernel_rfl) (bo_t h12)) ?_
  refine WPK.seq ?_
  refine WPK.region ?_
  refine RW.seg hT 1 [] [] [.bool false] [] (by kernel_rfl) (trivial) ?_
  refine RW.nil ?_
  refine WPK.ret (blockQ.ret (blockQ.ret (?_)))
  obtain rfl := someS hf
  refine Fin.of (rs := [.tmp 4]) hT [] (.bool false) [] rfl (by kernel_rfl) (trivial) ?_
  replace s := s.pick [] 2 rfl
  exact fun X h => vc rfl (h I2 _ s kk)
  have hf := iteF h12 hf
  refine WPK.condF (Eq.trans (b := .bool (decide ((strOfNums x8).toList ≠ (strOfNums x9).toList))) (by kernel_rfl) (bo_f h12)) ?_
  refine WPK.skip ?_
  refine WPK.region ?_
  refine RW.seg hT 3 [] [] [.int .i64 x7, .int .i64 (IntKind.i64.wrap (x7 + 1)), .int .i64 (IntKind.i64.wrap (x7 + 1))] [] (by kernel_rfl) (trivial) ?_
  refine RW.nil ?_
  subst hrec2
  exact ⟨n2, Nat.le_refl _, fun X h => kc (by kernel_rfl) rfl (h I2 (IntKind.i64.wrap (x7 + 1)) _ hf s kk e4 e5 e6 e1 e2 e3)⟩
  have hf := iteF h9 hf
  refine WPK.condF (Eq.trans (b := .bool (decide (x7 < (p0.Keys.length : Int)))) (by kernel_rfl) (bo_f h9)) ?_
  refine WPK.exit (blockQ.same ?_)
  refine WPK.seq ?_
  refine WPK.seq ?_
  refine WPK.region ?_
  refine RW.seg hT 1 [] [] [.int .i64 0] [] (by kernel_rfl) (trivial) ?_
  refine RW.nil ?_
  refine WPK.block ?_
  refine WPK.loop' (J := fun n3 D4 ds wz => ∀ X : Kont, (∀ (I3 : Nat → Prop) (x10 : Int) (w' : World), g20_l4 p0 p1 n3 x10 = some r → St w1 M I3 ((.blk b2 (.cells #[.bool p1.Leaf, .slice A4 p1.Pairs.length u4, .slice A5 p1.Keys.length u5, .slice A6 p1.Kids.length u6] 26 (0, 0))) :: (.blk b1 (.cells #[.bool p0.Leaf, .slice A1 p0.Pairs.length u1, .slice A2 p0.Keys.length u2, .slice A3 p0.Kids.length u3] 26 (0, 0))) :: F) w' → Kp I w I3 w' → Elems rp_T_api_Pair I3 w' A4 p1.Pairs → Elems (Rp.slice (Rp.int .u8)) I3 w' A5 p1.Keys → Elems (Rp.int .i64) I3 w' A6 p1.Kids → Elems rp_T_api_Pair I3 w' A1 p0.Pairs → Elems (Rp.slice (Rp.int .u8)) I3 w' A2 p0.Keys → Elems (Rp.int .i64) I3 w' A3 p0.Kids → X [(D4.getD 0 undef), (D4.getD 1 undef), .pointer (some ⟨b1, 0, none⟩), .pointer (some ⟨b2, 0, none⟩), .bool false, (D4.getD 5 undef), (D4.getD 6 undef), .int .i64 x10, (D4.getD 8 undef), (D4.getD 9 undef), (D4.getD 10 undef), (D4.getD 11 undef), (D4.getD 12 undef), (D4.getD 13 undef), (D4.getD 14 undef), (D4.getD 15 undef), (D4.getD 16 undef), (D4.getD 17 undef), (D4.getD 18 undef), (D4.getD 19 undef), (D4.getD 20 undef), (D4.getD 21 undef), (D4.getD 22 undef), (D4.getD 23 undef), (D4.getD 24 undef), (D4.getD 25 undef), (D4.getD 26 undef), (D4.getD 27 undef), (D4.getD 28 undef), (D4.getD 29 undef), (D4.getD 30 undef), (D4.getD 31 undef), (D4.getD 32 undef), (D4.getD 33 undef), (D4.getD 34 undef), (D4.getD 35 undef), (D4.getD 36 undef), (D4.getD 37 undef), (D4.getD 38 undef), (D4.getD 39 undef), (D4.getD 40 undef), (D4.getD 41 undef), (D4.getD 42 undef), (D4.getD 43 undef), (D4.getD 44 undef), (D4.getD 45 undef), (D4.getD 46 undef), (D4.getD 47 undef), (D4.getD 48 undef), (D4.getD 49 undef), (D4.getD 50 undef), (D4.getD 51 undef), (D4.getD 52 undef), (D4.getD 53 undef), (D4.getD 54 undef), (D4.getD 55 undef), (D4.getD 56 undef), (D4.getD 57 undef), (D4.getD 58 undef), (D4.getD 59 undef), (D4.getD 60 undef), (D4.getD 61 undef), (D4.getD 62 undef), (D4.getD 63 undef), (D4.getD 64 undef), (D4.getD 65 undef), (D4.getD 66 undef), (D4.getD 67 undef), (D4.getD 68 undef), (D4.getD 69 undef), (D4.getD 70 undef), (D4.getD 71 undef), (D4.getD 72 undef), (D4.getD 73 undef), (D4.getD 74 undef), (D4.getD 75 undef), (D4.getD 76 undef), (D4.getD 77 undef), (D4.getD 78 undef), (D4.getD 79 undef), (D4.getD 80 undef), (D4.getD 81 undef), (D4.getD 82 undef), (D4.getD 83 undef), (D4.getD 84 undef), (D4.getD 85 undef), (D4.getD 86 undef), (D4.getD 87 undef), (D4.getD 88 undef), (D4.getD 89 undef), (D4.getD 90 undef), (D4.getD 91 undef), (D4.getD 92 undef), (D4.getD 93 undef), (D4.getD 94 undef), (D4.getD 95 undef), (D4.getD 96 undef), (D4.getD 97 undef), (D4.getD 98 undef), (D4.getD 99 undef), (D4.getD 100 undef), (D4.getD 101 undef), (D4.getD 102 undef), (D4.getD 103 undef), (D4.getD 104 undef), (D4.getD 105 undef), (D4.getD 106 undef), (D4.getD 107 undef), (D4.getD 108 undef), (D4.getD 109 undef), (D4.getD 110 undef), (D4.getD 111 undef), (D4.getD 112 undef), (D4.getD 113 undef), (D4.getD 114 undef), (D4.getD 115 undef), (D4.getD 116 undef)] [] w') → X D4 ds wz) FUEL (fun X h => kc (by kernel_rfl) rfl (h I2 0 _ hf s kk e4 e5 e6 e1 e2 e3)) (fun _ _ _ hJ => hJ (fun _ _ _ => False) (by intro I3 x10 w8 hf s kk e4 e5 e6 e1 e2 e3; exact noneS hf)) ?_
  intro X4 hX4
  refine fun n3 D4 _ _ hJ => hJ (X4 n3) ?_
  clear s
  intro I3 x10 w8 hf s kk e4 e5 e6 e1 e2 e3
  refine hX4 _ _ _ _ ?_
  replace hf : g20_l4B p0 p1 (g20_l4 p0 p1 n3) x10 = some r := hf
  generalize hrec3 : g20_l4 p0 p1 n3 = rec3 at hf
  unfold g20_l4B at hf
  refine WPK.seq ?_
  refine WPK.seq ?_
  refine WPK.region ?_
  refine RW.seg hT 5 [.slice A3 p0.Kids.length u3] [] [.int .i64 x10, .pointer (some ⟨b1, 3, none⟩), .slice A3 p0.Kids.length u3, .int .i64 (p0.Kids.length : Int), .bool (decide (x10 < (p0.Kids.length : Int)))] [.cell ⟨b1, 3, none⟩ (.slice A3 p0.Kids.length u3)] (by kernel_rfl) (s.cell (i := 1) (off := 3) rfl rfl) ?_
  refine RW.nil ?_
  by_cases h13 : x10 < (p0.Kids.length : Int)
  have hf := iteT h13 hf
  refine WPK.condT (Eq.trans (b := .bool (decide (x10 < (p0.Kids.length : Int)))) (by kernel_rfl) (bo_t h13)) ?_
  refine WPK.skip ?_
  refine WPK.seq ?_
  refine WPK.block ?_
  refine WPK.seq ?_
  have e3S3 := e3
  have e4S3 := e4
  have e5S3 := e5
  have e6S3 := e6
  have e1S3 := e1
  have e2S3 := e2
  have kS3 : Kp I3 w8 I3 w8 := Kp.refl
  refine WPK.drawM (fun w' => ∃ I' : Nat → Prop, St w1 M I' ((.blk b2 (.cells #[.bool p1.Leaf, .slice A4 p1.Pairs.length u4, .slice A5 p1.Keys.length u5, .slice A6 p1.Kids.length u6] 26 (0, 0))) :: (.blk b1 (.cells #[.bool p0.Leaf, .slice A1 p0.Pairs.length u1, .slice A2 p0.Keys.length u2, .slice A3 p0.Kids.length u3] 26 (0, 0))) :: F) w' ∧ Kp I3 w8 I' w') 11 [0, 1, 0, 7, 15, 0, 32, 0, 224, 480, 1023] (by kernel_rfl) (by kernel_rfl) ?_
  intro ht3 w9 hd3
  have k5 := Kp.dr s hd3
  replace s := s.dr hd3
  replace e3 := e3.st k5
  replace e4 := e4.st k5
  replace e5 := e5.st k5
  replace e6 := e6.st k5
  replace e1 := e1.st k5
  replace e2 := e2.st k5
  replace kk := kk.trans k5
  replace kS3 := kS3.trans k5
  obtain ⟨x11, hx7, hf⟩ := bindS hf
  obtain ⟨h14, hx7⟩ := getS hx7
  obtain ⟨b7, o5, rfl⟩ := Elems.opn e3 hx7
  obtain ⟨cs15, hr15, ha7, hb7⟩ := Elems.getI e3S3 hx7
  obtain rfl : cs15 = [.int .i64 x11] := hr15
  obtain ⟨x12, hx8, hf⟩ := bindS hf
  obtain ⟨h15, hx8⟩ := getS hx8
  obtain ⟨b8, o6, rfl⟩ := Elems.opn e6 hx8
  obtain ⟨cs16, hr16, ha8, hb8⟩ := Elems.getI e6S3 hx8
  obtain rfl : cs16 = [.int .i64 x12] := hr16
  refine RD.segM hT ht3 (by kernel_rfl) [0, 1, 2, 3, 4, 5, 6, 7, 8, 9, 10] [.slice (some ⟨b7, o5, none⟩) p0.Kids.length u3, .int .i64 x11, .slice (some ⟨b8, o6, none⟩) p1.Kids.length u6, .int .i64 x12] [(116, .bool (decide (x11 ≠ x12)))] [.pointer (some ⟨b1, 3, none⟩), .slice (some ⟨b7, o5, none⟩) p0.Kids.length u3, .int .i64 x10, .pointer (some ⟨b7, o5 + x10.toNat * 1, none⟩), .int .i64 x11, .pointer (some ⟨b2, 3, none⟩), .slice (some ⟨b8, o6, none⟩) p1.Kids.length u6, .int .i64 x10, .pointer (some ⟨b8, o6 + x10.toNat * 1, none⟩), .int .i64 x12, .bool (decide (x11 ≠ x12))] [.cell ⟨b1, 3, none⟩ (.slice (some ⟨b7, o5, none⟩) p0.Kids.length u3), .idx x10 p0.Kids.length, .cell ⟨b7, o5 + x10.toNat * 1, none⟩ (.int .i64 x11), .cell ⟨b2, 3, none⟩ (.slice (some ⟨b8, o6, none⟩) p1.Kids.length u6), .idx x10 p1.Kids.length, .cell ⟨b8, o6 + x10.toNat * 1, none⟩ (.int .i64 x12), .veq (.bool (x11 != x12)) (.bool (decide (x11 ≠ x12)))] (by kernel_rfl) (by rintro w' ⟨I', s, k⟩; have e3 := e3S3.st k; have e4 := e4S3.st k; have e5 := e5S3.st k; have e6 := e6S3.st k; have e1 := e1S3.st k; have e2 := e2S3.st k; have ha7 := ha7.st k hb7; have ha8 := ha8.st k hb8; exact ⟨s.cell (i := 1) (off := 3) rfl rfl, h14, ha7 0 _ rfl, s.cell (i := 0) (off := 3) rfl rfl, h15, ha8 0 _ rfl, ne_v⟩) ⟨_, s.pick [0, 1] 2 rfl, kS3⟩ ?_
  refine RD.done (by kernel_rfl) ?_
  by_cases h16 : x11 ≠ x12
  have hf := iteT h16 hf
  refine WPK.condT (Eq.trans (b := .bool (decide (x11 ≠ x12))) (by kernel_rfl) (bo_t h16)) ?_
  refine WPK.seq ?_
  refine WPK.region ?_
  refine RW.seg hT 1 [] [] [.bool false] [] (by kernel_rfl) (trivial) ?_
  refine RW.nil ?_
  refine WPK.ret (blockQ.ret (blockQ.ret (?_)))
  obtain rfl := someS hf
  refine Fin.of (rs := [.tmp 4]) hT [] (.bool false) [] rfl (by kernel_rfl) (trivial) ?_
  replace s := s.pick [] 2 rfl
  exact fun X h => vc rfl (h I3 _ s kk)
  have hf := iteF h16 hf
  refine WPK.condF (Eq.trans (b := .bool (decide (x11 ≠ x12))) (by kernel_rfl) (bo_f h16)) ?_
  refine WPK.skip ?_
  refine WPK.region ?_
  refine RW.seg hT 3 [] [] [.int .i64 x10, .int .i64 (IntKind.i64.wrap (x10 + 1)), .int .i64 (IntKind.i64.wrap (x10 + 1))] [] (by kernel_rfl) (trivial) ?_
  refine RW.nil ?_
  subst hrec3
  exact ⟨n3, Nat.le_refl _, fun X h => kc (by kernel_rfl) rfl (h I3 (IntKind.i64.wrap (x10 + 1)) _ hf s kk e4 e5 e6 e1 e2 e3)⟩
  have hf := iteF h13 hf
  refine WPK.condF (Eq.trans (b := .bool (decide (x10 < (p0.Kids.length : Int)))) (by kernel_rfl) (bo_f h13)) ?_
  refine WPK.exit (blockQ.same ?_)
  refine WPK.seq ?_
  refine WPK.region ?_
  refine RW.seg hT 1 [] [] [.bool true] [] (by kernel_rfl) (trivial) ?_
  refine RW.nil ?_
  refine WPK.ret (?_)
  obtain rfl := someS hf
  refine Fin.of (rs := [.tmp 4]) hT [] (.bool true) [] rfl (by kernel_rfl) (trivial) ?_
  replace s := s.pick [] 2 rfl
  exact fun X h => vc rfl (h I3 _ s kk)
  refine WPK.region ?_
  refine RW.seg hT 5 [.bool p0.Leaf, .bool p1.Leaf] [(12, .bool (decide (p0.Leaf ≠ p1.Leaf)))] [.pointer (some ⟨b1, 0, none⟩), .bool p0.Leaf, .pointer (some ⟨b2, 0, none⟩), .bool p1.Leaf, .bool (decide (p0.Leaf ≠ p1.Leaf))] [.cell ⟨b1, 0, none⟩ (.bool p0.Leaf), .cell ⟨b2, 0, none⟩ (.bool p1.Leaf), .veq (.bool (!(p0.Leaf == p1.Leaf))) (.bool (decide (p0.Leaf ≠ p1.Leaf)))] (by kernel_rfl) (⟨s.cell (i := 1) (off := 0) rfl rfl, s.cell (i := 0) (off := 0) rfl rfl, bne_v⟩) ?_
  by_cases h17 : p0.Leaf ≠ p1.Leaf
  have hf := iteT h17 hf
  refine RW.seg hT 27 [] [(13, .bool true)] [.bool true, undef, undef, undef, undef, undef, undef, undef, .bool true, .bool true, undef, undef, undef, undef, undef, undef, undef, .bool true, .bool true, undef, undef, undef, undef, undef, undef, undef, .bool true] [.veq (.bool (decide (p0.Leaf ≠ p1.Leaf))) (.bool true)] (by kernel_rfl) (bo_t h17) ?_
  refine RW.nil ?_
  exact fun X h => kc (by kernel_rfl) rfl (h true hf)
  have hf := iteF h17 hf
  refine RW.seg hT 9 [.slice A1 p0.Pairs.length u1, .slice A4 p1.Pairs.length u4] [(13, .bool false), (20, .bool (decide ((p0.Pairs.length : Int) ≠ (p1.Pairs.length : Int))))] [.bool false, .pointer (some ⟨b1, 1, none⟩), .slice A1 p0.Pairs.length u1, .int .i64 (p0.Pairs.length : Int), .pointer (some ⟨b2, 1, none⟩), .slice A4 p1.Pairs.length u4, .int .i64 (p1.Pairs.length : Int), .bool (decide ((p0.Pairs.length : Int) ≠ (p1.Pairs.length : Int))), .bool (decide ((p0.Pairs.length : Int) ≠ (p1.Pairs.length : Int)))] [.veq (.bool (decide (p0.Leaf ≠ p1.Leaf))) (.bool false), .cell ⟨b1, 1, none⟩ (.slice A1 p0.Pairs.length u1), .cell ⟨b2, 1, none⟩ (.slice A4 p1.Pairs.length u4), .veq (.bool ((p0.Pairs.length : Int) != (p1.Pairs.length : Int))) (.bool (decide ((p0.Pairs.length : Int) ≠ (p1.Pairs.length : Int))))] (by kernel_rfl) (⟨bo_f h17, s.cell (i := 1) (off := 1) rfl rfl, s.cell (i := 0) (off := 1) rfl rfl, ne_v⟩) ?_
  by_cases h18 : (p0.Pairs.length : Int) ≠ (p1.Pairs.length : Int)
  have hf := iteT h18 hf
  refine RW.seg hT 18 [] [(22, .bool true)] [.bool true, undef, undef, undef, undef, undef, undef, undef, .bool true, .bool true, undef, undef, undef, undef, undef, undef, undef, .bool true] [.veq (.bool (decide ((p0.Pairs.length : Int) ≠ (p1.Pairs.length : Int)))) (.bool true)] (by kernel_rfl) (bo_t h18) ?_
  refine RW.nil ?_
  exact fun X h => kc (by kernel_rfl) rfl (h true hf)
  have hf := iteF h18 hf
  refine RW.seg hT 9 [.slice A2 p0.Keys.length u2, .slice A5 p1.Keys.length u5] [(22, .bool false), (29, .bool (decide ((p0.Keys.length : Int) ≠ (p1.Keys.length : Int))))] [.bool false, .pointer (some ⟨b1, 2, none⟩), .slice A2 p0.Keys.length u2, .int .i64 (p0.Keys.length : Int), .pointer (some ⟨b2, 2, none⟩), .slice A5 p1.Keys.length u5, .int .i64 (p1.Keys.length : Int), .bool (decide ((p0.Keys.length : Int) ≠ (p1.Keys.length : Int))), .bool (decide ((p0.Keys.length : Int) ≠ (p1.Keys.length : Int)))] [.veq (.bool (decide ((p0.Pairs.length : Int) ≠ (p1.Pairs.length : Int)))) (.bool false), .cell ⟨b1, 2, none⟩ (.slice A2 p0.Keys.length u2), .cell ⟨b2, 2, none⟩ (.slice A5 p1.Keys.length u5), .veq (.bool ((p0.Keys.length : Int) != (p1.Keys.length : Int))) (.bool (decide ((p0.Keys.length : Int) ≠ (p1.Keys.length : Int))))] (by kernel_rfl) (⟨bo_f h18, s.cell (i := 1) (off := 2) rfl rfl, s.cell (i := 0) (off := 2) rfl rfl, ne_v⟩) ?_
  by_cases h19 : (p0.Keys.length : Int) ≠ (p1.Keys.length : Int)
  have hf := iteT h19 hf
  refine RW.seg hT 9 [] [(31, .bool true)] [.bool true, undef, undef, undef, undef, undef, undef, undef, .bool true] [.veq (.bool (decide ((p0.Keys.length : Int) ≠ (p1.Keys.length : Int)))) (.bool true)] (by kernel_rfl) (bo_t h19) ?_
  refine RW.nil ?_
  exact fun X h => kc (by kernel_rfl) rfl (h true hf)
  have hf := iteF h19 hf
  refine RW.seg hT 9 [.slice A3 p0.Kids.length u3, .slice A6 p1.Kids.length u6] [(31, .bool false), (38, .bool (decide ((p0.Kids.length : Int) ≠ (p1.Kids.length : Int))))] [.bool false, .pointer (some ⟨b1, 3, none⟩), .slice A3 p0.Kids.length u3, .int .i64 (p0.Kids.length : Int), .pointer (some ⟨b2, 3, none⟩), .slice A6 p1.Kids.length u6, .int .i64 (p1.Kids.length : Int), .bool (decide ((p0.Kids.length : Int) ≠ (p1.Kids.length : Int))), .bool (decide ((p0.Kids.length : Int) ≠ (p1.Kids.length : Int)))] [.veq (.bool (decide ((p0.Keys.length : Int) ≠ (p1.Keys.length : Int)))) (.bool false), .cell ⟨b1, 3, none⟩ (.slice A3 p0.Kids.length u3), .cell ⟨b2, 3, none⟩ (.slice A6 p1.Kids.length u6), .veq (.bool ((p0.Kids.length : Int) != (p1.Kids.length : Int))) (.bool (decide ((p0.Kids.length : Int) ≠ (p1.Kids.length : Int))))] (by kernel_rfl) (⟨bo_f h19, s.cell (i := 1) (off := 3) rfl rfl, s.cell (i := 0) (off := 3) rfl rfl, ne_v⟩) ?_
  refine RW.nil ?_
  exact fun X h => kc (by kernel_rfl) rfl (h (decide ((p0.Kids.length : Int) ≠ (p1.Kids.length : Int))) hf)
theorem c6 {w1 w : World} {M I : Nat → Prop} {F : List It} (p0 : T_api_Node) (p1 : Int) (p2 : (List Int)) (A1 : Option Addr) (u1 : Nat) (A2 : Option Addr) (u2 : Nat) (A3 : Option Addr) (u3 : Nat) (A4 : Option Addr) (u4 : Nat) (hc1 : (p0.Pairs.length ≤ u1 ∧ u1 ≤ 9223372036854775807)) (e1 : Elems rp_T_api_Pair I w A1 p0.Pairs) (hc2 : (p0.Keys.length ≤ u2 ∧ u2 ≤ 9223372036854775807)) (e2 : Elems (Rp.slice (Rp.int .u8)) I w A2 p0.Keys) (hc3 : (p0.Kids.length ≤ u3 ∧ u3 ≤ 9223372036854775807)) (e3 : Elems (Rp.int .i64) I w A3 p0.Kids) (hc4 : (p2.length ≤ u4 ∧ u4 ≤ 9223372036854775807)) (e4 : Elems (Rp.int .u8) I w A4 p2) (s : St w1 M I (F) w) {r : Bool} (hf : g6 p0 p1 p2 = some r) :
    Ret Try.prog 6 [.agg #[.bool p0.Leaf, .slice A1 p0.Pairs.length u1, .slice A2 p0.Keys.length u2, .slice A3 p0.Kids.length u3], .int .i64 p1, .slice A4 p2.length u4] w fun v wz => ∀ X : Value → World → Prop, (∀ (I' : Nat → Prop) (w' : World), St w1 M I' (F) w' → Kp I w I' w' → X (.bool r) w') → X v wz := by
  have kk : Kp I w I w := Kp.refl
  unfold g6 at hf
  refine Ret.of Try.func6 rfl ?_
  refine WPK.seq ?_
  refine WPK.region ?_
  refine RW.op (by kernel_rfl) (OK.new hT (f := fun b => .pointer (some ⟨b, 0, none⟩)) (cs := [.bool p0.Leaf, .slice A1 p0.Pairs.length u1, .slice A2 p0.Keys.length u2, .slice A3 p0.Kids.length u3]) (e := 26) (c := .tt) s (by kernel_rfl) trivial ?_)
  clear s
  rintro w2 b1 s k1 -
  replace e1 := e1.st k1
  replace e2 := e2.st k1
  replace e3 := e3.st k1
  replace e4 := e4.st k1
  replace kk := kk.trans k1
  refine RW.seg hT 1 [] [] [.bool false] [] (by kernel_rfl) (trivial) ?_
  refine RW.nil ?_
  refine WPK.seq ?_
  refine WPK.seq ?_
  refine WPK.cut' (Kn fun D1 ds wz => ∀ X : Kont, (∀ (I1 : Nat → Prop) (x1 : Bool) (w' : World), g6_j1 p0 p1 p2 x1 = some r → St w1 M I1 ((.blk b1 (.cells #[.bool p0.Leaf, .slice A1 p0.Pairs.length u1, .slice A2 p0.Keys.length u2, .slice A3 p0.Kids.length u3] 26 (0, 0))) :: F) w' → Kp I w I1 w' → Elems (Rp.int .u8) I1 w' A4 p2 → Elems rp_T_api_Pair I1 w' A1 p0.Pairs → Elems (Rp.slice (Rp.int .u8)) I1 w' A2 p0.Keys → Elems (Rp.int .i64) I1 w' A3 p0.Kids → X [(D1.getD 0 undef), .int .i64 p1, .slice A4 p2.length u4, .pointer (some ⟨b1, 0, none⟩), (D1.getD 4 undef), (D1.getD 5 undef), .bool false, undef, undef, undef, undef, undef, undef, undef, undef, undef, undef, (D1.getD 17 undef), (D1.getD 18 undef), (D1.getD 19 undef), (D1.getD 20 undef), (D1.getD 21 undef), (D1.getD 22 undef), (D1.getD 23 undef), (D1.getD 24 undef), (D1.getD 25 undef), (D1.getD 26 undef), (D1.getD 27 undef), (D1.getD 28 undef), .bool x1, undef, undef, undef, undef, undef, undef, undef, undef, undef, undef, undef, undef, undef, undef, undef, undef, undef, undef, undef, undef, undef, undef, undef, undef, undef, undef, undef, undef, undef, undef, undef, undef, undef, undef, undef, undef, undef, undef, undef, undef, undef, undef, undef, undef, undef, undef, undef, undef] [] w') → X D1 ds wz) ?_ ?_
  intro X1 hX1
  refine fun D1 _ _ hJ => hJ X1 ?_
  clear s
  intro I1 x1 w3 hf s kk e4 e1 e2 e3
  refine hX1 _ _ _ ?_
  unfold g6_j1 at hf
  by_cases h1 : x1 = true
  have hf := iteT h1 hf
  refine WPK.condT (Eq.trans (b := .bool x1) (by kernel_rfl) (b_t h1)) ?_
  refine WPK.seq ?_
  refine WPK.region ?_
  obtain ⟨x2, hx1, hf⟩ := bindS hf
  refine RW.op (by kernel_rfl) (OK.call' en11 (by kernel_rfl) (c11 (F := (.blk b1 (.cells #[.bool p0.Leaf, .slice A1 p0.Pairs.length u1, .slice A2 p0.Keys.length u2, .slice A3 p0.Kids.length u3] 26 (0, 0))) :: F) s hx1) ?_)
  intro X2 hX2
  refine fun _ _ hJ => hJ X2 ?_
  clear s
  intro I2 w4 s k2
  refine hX2 _ _ ?_
  replace e4 := e4.st k2
  replace e1 := e1.st k2
  replace e2 := e2.st k2
  replace e3 := e3.st k2
  replace kk := kk.trans k2
  refine RW.seg hT 1 [] [] [.bool x2] [] (by kernel_rfl) (trivial) ?_
  refine RW.nil ?_
  refine WPK.ret (?_)
  obtain rfl := someS hf
  refine Fin.of (rs := [.tmp 6]) hT [] (.bool x2) [] rfl (by kernel_rfl) (trivial) ?_
  replace s := s.pick [] 1 rfl
  exact fun X h => vc rfl (h I2 _ s kk)
  have hf := iteF h1 hf
  refine WPK.condF (Eq.trans (b := .bool x1) (by kernel_rfl) (b_f h1)) ?_
  refine WPK.skip ?_
  refine WPK.seq ?_
  refine WPK.region ?_
  refine RW.seg hT 1 [.agg #[.bool p0.Leaf, .slice A1 p0.Pairs.length u1, .slice A2 p0.Keys.length u2, .slice A3 p0.Kids.length u3]] [] [.agg #[.bool p0.Leaf, .slice A1 p0.Pairs.length u1, .slice A2 p0.Keys.length u2, .slice A3 p0.Kids.length u3]] [.cells ⟨b1, 0, none⟩ [.bool p0.Leaf, .slice A1 p0.Pairs.length u1, .slice A2 p0.Keys.length u2, .slice A3 p0.Kids.length u3] 4] (by kernel_rfl) (s.cells (i := 0) rfl rfl rfl) ?_
  obtain ⟨x3, hx2, hf⟩ := bindS hf
  refine RW.op (by kernel_rfl) (OK.call' en30 (by kernel_rfl) (c30 (F := (.blk b1 (.cells #[.bool p0.Leaf, .slice A1 p0.Pairs.length u1, .slice A2 p0.Keys.length u2, .slice A3 p0.Kids.length u3] 26 (0, 0))) :: F) p0 A1 u1 A2 u2 A3 u3 hc1 e1 hc2 e2 hc3 e3 s hx2) ?_)
  intro X3 hX3
  refine fun _ _ hJ => hJ X3 ?_
  clear s
  intro I3 A5 n1 u5 cl1 w5 s k3 hn1 rp1
  refine hX3 _ _ ?_
  replace e4 := e4.st k3
  replace e1 := e1.st k3
  replace e2 := e2.st k3
  replace e3 := e3.st k3
  replace kk := kk.trans k3
  rw [hn1] at s
  try rw [hn1]
  obtain ⟨I4, s', k4, hc5, e5⟩ := St.give s (i := 0) rfl rfl rp1
  replace s := s'; clear s'
  replace e4 := e4.st k4
  replace e1 := e1.st k4
  replace e2 := e2.st k4
  replace e3 := e3.st k4
  replace kk := kk.trans k4
  refine RW.seg hT 7 [] [] [.tuple #[.int .i64 x3.1, .slice A5 x3.2.1.length u5, .int .i64 x3.2.2], .int .i64 x3.1, .slice A5 x3.2.1.length u5, .int .i64 x3.2.2, .int .i64 x3.1, .slice A5 x3.2.1.length u5, .int .i64 x3.2.2] [] (by kernel_rfl) (trivial) ?_
  refine RW.nil ?_
  refine WPK.seq ?_
  refine WPK.region ?_
  refine RW.seg hT 1 [.agg #[.bool p0.Leaf, .slice A1 p0.Pairs.length u1, .slice A2 p0.Keys.length u2, .slice A3 p0.Kids.length u3]] [] [.agg #[.bool p0.Leaf, .slice A1 p0.Pairs.length u1, .slice A2 p0.Keys.length u2, .slice A3 p0.Kids.length u3]] [.cells ⟨b1, 0, none⟩ [.bool p0.Leaf, .slice A1 p0.Pairs.length u1, .slice A2 p0.Keys.length u2, .slice A3 p0.Kids.length u3] 4] (by kernel_rfl) (s.cells (i := 0) rfl rfl rfl) ?_
  obtain ⟨x4, hx3, hf⟩ := bindS hf
  refine RW.op (by kernel_rfl) (OK.call' en31 (by kernel_rfl) (c31 (F := (.blk b1 (.cells #[.bool p0.Leaf, .slice A1 p0.Pairs.length u1, .slice A2 p0.Keys.length u2, .slice A3 p0.Kids.length u3] 26 (0, 0))) :: F) p0 A1 u1 A2 u2 A3 u3 hc1 e1 hc2 e2 hc3 e3 s hx3) ?_)
  intro X4 hX4
  refine fun _ _ hJ => hJ X4 ?_
  clear s
  intro I5 A6 n2 u6 cl2 w6 s k5 hn2 rp2
  refine hX4 _ _ ?_
  replace e4 := e4.st k5
  replace e5 := e5.st k5
  replace e1 := e1.st k5
  replace e2 := e2.st k5
  replace e3 := e3.st k5
  replace kk := kk.trans k5
  rw [hn2] at s
  try rw [hn2]
  obtain ⟨I6, s', k6, hc6, e6⟩ := St.give s (i := 0) rfl rfl rp2
  replace s := s'; clear s'
  replace e4 := e4.st k6
  replace e5 := e5.st k6
  replace e1 := e1.st k6
  replace e2 := e2.st k6
  replace e3 := e3.st k6
  replace kk := kk.trans k6
  refine RW.seg hT 7 [] [] [.tuple #[.int .i64 x4.1, .slice A6 x4.2.1.length u6, .int .i64 x4.2.2], .int .i64 x4.1, .slice A6 x4.2.1.length u6, .int .i64 x4.2.2, .int .i64 x4.1, .slice A6 x4.2.1.length u6, .int .i64 x4.2.2] [] (by kernel_rfl) (trivial) ?_
  refine RW.nil ?_
  refine WPK.seq ?_
  refine WPK.region ?_
  refine RW.seg hT 2 [] [] [.int .i64 p1, .slice A4 p2.length u4] [] (by kernel_rfl) (trivial) ?_
  obtain ⟨x5, hx4, hf⟩ := bindS hf
  refine RW.op (by kernel_rfl) (OK.call' en32 (by kernel_rfl) (c32 (F := (.blk b1 (.cells #[.bool p0.Leaf, .slice A1 p0.Pairs.length u1, .slice A2 p0.Keys.length u2, .slice A3 p0.Kids.length u3] 26 (0, 0))) :: F) p1 p2 A4 u4 hc4 e4 s hx4) ?_)
  intro X5 hX5
  refine fun _ _ hJ => hJ X5 ?_
  clear s
  intro I7 A7 n3 u7 cl3 A8 n4 u8 cl4 A9 n5 u9 cl5 w7 s k7 hn3 rp3 hn4 rp4 hn5 rp5
  refine hX5 _ _ ?_
  replace e4 := e4.st k7
  replace e5 := e5.st k7
  replace e6 := e6.st k7
  replace e1 := e1.st k7
  replace e2 := e2.st k7
  replace e3 := e3.st k7
  replace kk := kk.trans k7
  rw [hn3] at s
  try rw [hn3]
  obtain ⟨I8, s', k8, hc7, e7⟩ := St.give s (i := 0) rfl rfl rp3
  replace s := s'; clear s'
  replace e4 := e4.st k8
  replace e5 := e5.st k8
  replace e6 := e6.st k8
  replace e1 := e1.st k8
  replace e2 := e2.st k8
  replace e3 := e3.st k8
  replace rp4 := rp4.st k8
  replace rp5 := rp5.st k8
  replace kk := kk.trans k8
  rw [hn4] at s
  try rw [hn4]
  obtain ⟨I9, s', k9, hc8, e8⟩ := St.give s (i := 0) rfl rfl rp4
  replace s := s'; clear s'
  replace e4 := e4.st k9
  replace e5 := e5.st k9
  replace e6 := e6.st k9
  replace e1 := e1.st k9
  replace e2 := e2.st k9
  replace e3 := e3.st k9
  replace e7 := e7.st k9
  replace rp5 := rp5.st k9
  replace kk := kk.trans k9
  rw [hn5] at s
  try rw [hn5]
  obtain ⟨I10, s', k10, hc9, e9⟩ := St.give s (i := 0) rfl rfl rp5
  replace s := s'; clear s'
  replace e4 := e4.st k10
  replace e5 := e5.st k10
  replace e6 := e6.st k10
  replace e1 := e1.st k10
  replace e2 := e2.st k10
  replace e3 := e3.st k10
  replace e7 := e7.st k10
  replace e8 := e8.st k10
  replace kk := kk.trans k10
  refine RW.seg hT 3 [] [] [.tuple #[.agg #[.bool x5.1.Leaf, .slice A7 x5.1.Pairs.length u7, .slice A8 x5.1.Keys.length u8, .slice A9 x5.1.Kids.length u9], .int .i64 x5.2], .agg #[.bool x5.1.Leaf, .slice A7 x5.1.Pairs.length u7, .slice A8 x5.1.Keys.length u8, .slice A9 x5.1.Kids.length u9], .int .i64 x5.2] [] (by kernel_rfl) (trivial) ?_
  refine RW.op (by kernel_rfl) (OK.new hT (f := fun b => .pointer (some ⟨b, 0, none⟩)) (cs := [.bool false, .slice none 0 0, .slice none 0 0, .slice none 0 0]) (e := 26) (c := .tt) s (by kernel_rfl) trivial ?_)
  clear s
  rintro w8 b2 s k11 -
  replace e4 := e4.st k11
  replace e5 := e5.st k11
  replace e6 := e6.st k11
  replace e1 := e1.st k11
  replace e2 := e2.st k11
  replace e3 := e3.st k11
  replace e7 := e7.st k11
  replace e8 := e8.st k11
  replace e9 := e9.st k11
  replace kk := kk.trans k11
  refine RW.op (by kernel_rfl) (OK.store hT (i := 0) (b := b2) (off := 0) (n := 4) (vs := [.bool x5.1.Leaf, .slice A7 x5.1.Pairs.length u7, .slice A8 x5.1.Keys.length u8, .slice A9 x5.1.Kids.length u9]) (cs := [.bool false, .slice none 0 0, .slice none 0 0, .slice none 0 0]) (e := 26) s (by kernel_rfl) rfl rfl (flat_ok rfl) (Nat.le_of_ble_eq_true rfl) ?_)
  clear s
  rintro w9 s k12 -
  replace e4 := e4.st k12
  replace e5 := e5.st k12
  replace e6 := e6.st k12
  replace e1 := e1.st k12
  replace e2 := e2.st k12
  replace e3 := e3.st k12
  replace e7 := e7.st k12
  replace e8 := e8.st k12
  replace e9 := e9.st k12
  replace kk := kk.trans k12
  refine RW.seg hT 1 [] [] [.int .i64 x5.2] [] (by kernel_rfl) (trivial) ?_
  refine RW.nil ?_
  refine WPK.seq ?_
  refine WPK.region ?_
  refine RW.seg hT 2 [] [] [.int .i64 p1, .slice A4 p2.length u4] [] (by kernel_rfl) (trivial) ?_
  obtain ⟨x6, hx5, hf⟩ := bindS hf
  refine RW.op (by kernel_rfl) (OK.call' en33 (by kernel_rfl) (c33 (F := (.blk b2 (.cells #[.bool x5.1.Leaf, .slice A7 x5.1.Pairs.length u7, .slice A8 x5.1.Keys.length u8, .slice A9 x5.1.Kids.length u9] 26 (0, 0))) :: (.blk b1 (.cells #[.bool p0.Leaf, .slice A1 p0.Pairs.length u1, .slice A2 p0.Keys.length u2, .slice A3 p0.Kids.length u3] 26 (0, 0))) :: F) p1 p2 A4 u4 hc4 e4 s hx5) ?_)
  intro X6 hX6
  refine fun _ _ hJ => hJ X6 ?_
  clear s
  intro I11 A10 n6 u10 cl6 A11 n7 u11 cl7 A12 n8 u12 cl8 w10 s k13 hn6 rp6 hn7 rp7 hn8 rp8
  refine hX6 _ _ ?_
  replace e4 := e4.st k13
  replace e5 := e5.st k13
  replace e6 := e6.st k13
  replace e1 := e1.st k13
  replace e2 := e2.st k13
  replace e3 := e3.st k13
  replace e7 := e7.st k13
  replace e8 := e8.st k13
  replace e9 := e9.st k13
  replace kk := kk.trans k13
  rw [hn6] at s
  try rw [hn6]
  obtain ⟨I12, s', k14, hc10, e10⟩ := St.give s (i := 0) rfl rfl rp6
  replace s := s'; clear s'
  replace e4 := e4.st k14
  replace e5 := e5.st k14
  replace e6 := e6.st k14
  replace e1 := e1.st k14
  replace e2 := e2.st k14
  replace e3 := e3.st k14
  replace e7 := e7.st k14
  replace e8 := e8.st k14
  replace e9 := e9.st k14
  replace rp7 := rp7.st k14
  replace rp8 := rp8.st k14
  replace kk := kk.trans k14
  rw [hn7] at s
  try rw [hn7]
  obtain ⟨I13, s', k15, hc11, e11⟩ := St.give s (i := 0) rfl rfl rp7
  replace s := s'; clear s'
  replace e4 := e4.st k15
  replace e5 := e5.st k15
  replace e6 := e6.st k15
  replace e1 := e1.st k15
  replace e2 := e2.st k15
  replace e3 := e3.st k15
  replace e7 := e7.st k15
  replace e8 := e8.st k15
  replace e9 := e9.st k15
  replace e10 := e10.st k15
  replace rp8 := rp8.st k15
  replace kk := kk.trans k15
  rw [hn8] at s
  try rw [hn8]
  obtain ⟨I14, s', k16, hc12, e12⟩ := St.give s (i := 0) rfl rfl rp8
  replace s := s'; clear s'
  replace e4 := e4.st k16
  replace e5 := e5.st k16
  replace e6 := e6.st k16
  replace e1 := e1.st k16
  replace e2 := e2.st k16
  replace e3 := e3.st k16
  replace e7 := e7.st k16
  replace e8 := e8.st k16
  replace e9 := e9.st k16
  replace e10 := e10.st k16
  replace e11 := e11.st k16
  replace kk := kk.trans k16
  refine RW.seg hT 3 [] [] [.tuple #[.agg #[.bool x6.1.Leaf, .slice A10 x6.1.Pairs.length u10, .slice A11 x6.1.Keys.length u11, .slice A12 x6.1.Kids.length u12], .int .i64 x6.2], .agg #[.bool x6.1.Leaf, .slice A10 x6.1.Pairs.length u10, .slice A11 x6.1.Keys.length u11, .slice A12 x6.1.Kids.length u12], .int .i64 x6.2] [] (by kernel_rfl) (trivial) ?_
  refine RW.op (by kernel_rfl) (OK.new hT (f := fun b => .pointer (some ⟨b, 0, none⟩)) (cs := [.bool false, .slice none 0 0, .slice none 0 0, .slice none 0 0]) (e := 26) (c := .tt) s (by kernel_rfl) trivial ?_)
  clear s
  rintro w11 b3 s k17 -
  replace e4 := e4.st k17
  replace e5 := e5.st k17
  replace e6 := e6.st k17
  replace e1 := e1.st k17
  replace e2 := e2.st k17
  replace e3 := e3.st k17
  replace e7 := e7.st k17
  replace e8 := e8.st k17
  replace e9 := e9.st k17
  replace e10 := e10.st k17
  replace e11 := e11.st k17
  replace e12 := e12.st k17
  replace kk := kk.trans k17
  refine RW.op (by kernel_rfl) (OK.store hT (i := 0) (b := b3) (off := 0) (n := 4) (vs := [.bool x6.1.Leaf, .slice A10 x6.1.Pairs.length u10, .slice A11 x6.1.Keys.length u11, .slice A12 x6.1.Kids.length u12]) (cs := [.bool false, .slice none 0 0, .slice none 0 0, .slice none 0 0]) (e := 26) s (by kernel_rfl) rfl rfl (flat_ok rfl) (Nat.le_of_ble_eq_true rfl) ?_)
  clear s
  rintro w12 s k18 -
  replace e4 := e4.st k18
  replace e5 := e5.st k18
  replace e6 := e6.st k18
  replace e1 := e1.st k18
  replace e2 := e2.st k18
  replace e3 := e3.st k18
  replace e7 := e7.st k18
  replace e8 := e8.st k18
  replace e9 := e9.st k18
  replace e10 := e10.st k18
  replace e11 := e11.st k18
  replace e12 := e12.st k18
  replace kk := kk.trans k18
  refine RW.seg hT 1 [] [] [.int .i64 x6.2] [] (by kernel_rfl) (trivial) ?_
  refine RW.nil ?_
  refine WPK.seq ?_
  refine WPK.cut' (Kn fun D2 ds wz => ∀ X : Kont, (∀ (I15 : Nat → Prop) (x7 : Bool) (w' : World), g6_j2 x7 = some r → St w1 M I15 (F) w' → Kp I w I15 w' → X [(D2.getD 0 undef), (D2.getD 1 undef), (D2.getD 2 undef), (D2.getD 3 undef), (D2.getD 4 undef), (D2.getD 5 undef), .bool x7, (D2.getD 7 undef), (D2.getD 8 undef), (D2.getD 9 undef), (D2.getD 10 undef), (D2.getD 11 undef), (D2.getD 12 undef), (D2.getD 13 undef), (D2.getD 14 undef), (D2.getD 15 undef), (D2.getD 16 undef), (D2.getD 17 undef), (D2.getD 18 undef), (D2.getD 19 undef), (D2.getD 20 undef), (D2.getD 21 undef), (D2.getD 22 undef), (D2.getD 23 undef), (D2.getD 24 undef), (D2.getD 25 undef), (D2.getD 26 undef), (D2.getD 27 undef), (D2.getD 28 undef), (D2.getD 29 undef), (D2.getD 30 undef), (D2.getD 31 undef), (D2.getD 32 undef), (D2.getD 33 undef), (D2.getD 34 undef), (D2.getD 35 undef), (D2.getD 36 undef), (D2.getD 37 undef), (D2.getD 38 undef), (D2.getD 39 undef), (D2.getD 40 undef), (D2.getD 41 undef), (D2.getD 42 undef), (D2.getD 43 undef), (D2.getD 44 undef), (D2.getD 45 undef), (D2.getD 46 undef), (D2.getD 47 undef), (D2.getD 48 undef), (D2.getD 49 undef), (D2.getD 50 undef), (D2.getD 51 undef), (D2.getD 52 undef), (D2.getD 53 undef), (D2.getD 54 undef), (D2.getD 55 undef), (D2.getD 56 undef), (D2.getD 57 undef), (D2.getD 58 undef), (D2.getD 59 undef), (D2.getD 60 undef), (D2.getD 61 undef), (D2.getD 62 undef), (D2.getD 63 undef), (D2.getD 64 undef), (D2.getD 65 undef), (D2.getD 66 undef), (D2.getD 67 undef), (D2.getD 68 undef), (D2.getD 69 undef), (D2.getD 70 undef), (D2.getD 71 undef), (D2.getD 72 undef), (D2.getD 73 undef), (D2.getD 74 undef), (D2.getD 75 undef), (D2.getD 76 undef), (D2.getD 77 undef)] [] w') → X D2 ds wz) ?_ ?_
  intro X7 hX7
  refine fun D2 _ _ hJ => hJ X7 ?_
  clear s
  intro I15 x7 w13 hf s kk
  refine hX7 _ _ _ ?_
  unfold g6_j2 at hf
  refine WPK.ret (?_)
  obtain rfl := someS hf
  refine Fin.of (rs := [.tmp 6]) hT [] (.bool x7) [] rfl (by kernel_rfl) (trivial) ?_
  exact fun X h => vc rfl (h I15 _ s kk)
  refine WPK.region ?_
  refine RW.seg hT 3 [] [(57, .bool (decide (x3.1 = x4.1)))] [.int .i64 x3.1, .int .i64 x4.1, .bool (decide (x3.1 = x4.1))] [.veq (.bool (x3.1 == x4.1)) (.bool (decide (x3.1 = x4.1)))] (by kernel_rfl) (eq_v) ?_
  by_cases h2 : x3.1 = x4.1
  have hf := iteT h2 hf
  refine RW.seg hT 3 [] [(58, .bool true)] [.bool true, .slice A5 x3.2.1.length u5, .slice A6 x4.2.1.length u6] [.veq (.bool (decide (x3.1 = x4.1))) (.bool true)] (by kernel_rfl) (bo_t h2) ?_
  obtain ⟨x8, hx6, hf⟩ := bindS hf
  refine RW.op (by kernel_rfl) (OK.call' en34 (by kernel_rfl) (c34 (F := (.blk b3 (.cells #[.bool x6.1.Leaf, .slice A10 x6.1.Pairs.length u10, .slice A11 x6.1.Keys.length u11, .slice A12 x6.1.Kids.length u12] 26 (0, 0))) :: (.blk b2 (.cells #[.bool x5.1.Leaf, .slice A7 x5.1.Pairs.length u7, .slice A8 x5.1.Keys.length u8, .slice A9 x5.1.Kids.length u9] 26 (0, 0))) :: (.blk b1 (.cells #[.bool p0.Leaf, .slice A1 p0.Pairs.length u1, .slice A2 p0.Keys.length u2, .slice A3 p0.Kids.length u3] 26 (0, 0))) :: F) x3.2.1 x4.2.1 A5 u5 A6 u6 hc5 e5 hc6 e6 s hx6) ?_)
  intro X8 hX8
  refine fun _ _ hJ => hJ X8 ?_
  clear s
  intro I16 w14 s k19
  refine hX8 _ _ ?_
  replace e4 := e4.st k19
  replace e5 := e5.st k19
  replace e6 := e6.st k19
  replace e1 := e1.st k19
  replace e2 := e2.st k19
  replace e3 := e3.st k19
  replace e7 := e7.st k19
  replace e8 := e8.st k19
  replace e9 := e9.st k19
  replace e10 := e10.st k19
  replace e11 := e11.st k19
  replace e12 := e12.st k19
  replace kk := kk.trans k19
  refine RW.seg hT 1 [] [] [.bool x8] [] (by kernel_rfl) (trivial) ?_
  by_cases h3 : x8 = true
  have hf := iteT h3 hf
  refine RW.seg hT 5 [] [(63, .bool true), (66, .bool (decide (x3.2.2 = x4.2.2)))] [.bool true, .int .i64 x3.2.2, .int .i64 x4.2.2, .bool (decide (x3.2.2 = x4.2.2)), .bool (decide (x3.2.2 = x4.2.2))] [.veq (.bool (x8)) (.bool true), .veq (.bool (x3.2.2 == x4.2.2)) (.bool (decide (x3.2.2 = x4.2.2)))] (by kernel_rfl) (⟨b_t h3, eq_v⟩) ?_
  by_cases h4 : x3.2.2 = x4.2.2
  have hf := iteT h4 hf
  refine RW.seg hT 3 [.agg #[.bool x5.1.Leaf, .slice A7 x5.1.Pairs.length u7, .slice A8 x5.1.Keys.length u8, .slice A9 x5.1.Kids.length u9], .agg #[.bool x6.1.Leaf, .slice A10 x6.1.Pairs.length u10, .slice A11 x6.1.Keys.length u11, .slice A12 x6.1.Kids.length u12]] [(68, .bool true)] [.bool true, .agg #[.bool x5.1.Leaf, .slice A7 x5.1.Pairs.length u7, .slice A8 x5.1.Keys.length u8, .slice A9 x5.1.Kids.length u9], .agg #[.bool x6.1.Leaf, .slice A10 x6.1.Pairs.length u10, .slice A11 x6.1.Keys.length u11, .slice A12 x6.1.Kids.length u12]] [.veq (.bool (decide (x3.2.2 = x4.2.2))) (.bool true), .cells ⟨b2, 0, none⟩ [.bool x5.1.Leaf, .slice A7 x5.1.Pairs.length u7, .slice A8 x5.1.Keys.length u8, .slice A9 x5.1.Kids.length u9] 4, .cells ⟨b3, 0, none⟩ [.bool x6.1.Leaf, .slice A10 x6.1.Pairs.length u10, .slice A11 x6.1.Keys.length u11, .slice A12 x6.1.Kids.length u12] 4] (by kernel_rfl) (⟨bo_t h4, s.cells (i := 1) rfl rfl rfl, s.cells (i := 0) rfl rfl rfl⟩) ?_
  obtain ⟨x9, hx7, hf⟩ := bindS hf
  refine RW.op (by kernel_rfl) (OK.call' en20 (by kernel_rfl) (c20 (F := (.blk b3 (.cells #[.bool x6.1.Leaf, .slice A10 x6.1.Pairs.length u10, .slice A11 x6.1.Keys.length u11, .slice A12 x6.1.Kids.length u12] 26 (0, 0))) :: (.blk b2 (.cells #[.bool x5.1.Leaf, .slice A7 x5.1.Pairs.length u7, .slice A8 x5.1.Keys.length u8, .slice A9 x5.1.Kids.length u9] 26 (0, 0))) :: (.blk b1 (.cells #[.bool p0.Leaf, .slice A1 p0.Pairs.length u1, .slice A2 p0.Keys.length u2, .slice A3 p0.Kids.length u3] 26 (0, 0))) :: F) x5.1 x6.1 A7 u7 A8 u8 A9 u9 A10 u10 A11 u11 A12 u12 hc7 e7 hc8 e8 hc9 e9 hc10 e10 hc11 e11 hc12 e12 s hx7) ?_)
  intro X9 hX9
  refine fun _ _ hJ => hJ X9 ?_
  clear s
  intro I17 w15 s k20
  refine hX9 _ _ ?_
  replace e4 := e4.st k20
  replace e5 := e5.st k20
  replace e6 := e6.st k20
  replace e1 := e1.st k20
  replace e2 := e2.st k20
  replace e3 := e3.st k20
  replace e7 := e7.st k20
  replace e8 := e8.st k20
  replace e9 := e9.st k20
  replace e10 := e10.st k20
  replace e11 := e11.st k20
  replace e12 := e12.st k20
  replace kk := kk.trans k20
  refine RW.seg hT 1 [] [] [.bool x9] [] (by kernel_rfl) (trivial) ?_
  by_cases h5 : x9 = true
  have hf := iteT h5 hf
  refine RW.seg hT 6 [] [(73, .bool true), (76, .bool (decide (x5.2 = x6.2)))] [.bool true, .int .i64 x5.2, .int .i64 x6.2, .bool (decide (x5.2 = x6.2)), .bool (decide (x5.2 = x6.2)), .bool (decide (x5.2 = x6.2))] [.veq (.bool (x9)) (.bool true), .veq (.bool (x5.2 == x6.2)) (.bool (decide (x5.2 = x6.2)))] (by kernel_rfl) (⟨b_t h5, eq_v⟩) ?_
  refine RW.nil ?_
  replace s := s.pick [] 3 rfl
  exact fun X h => kc (by kernel_rfl) rfl (h I17 (decide (x5.2 = x6.2)) _ hf s kk)
  have hf := iteF h5 hf
  refine RW.seg hT 6 [] [(73, .bool false)] [.bool false, undef, undef, undef, .bool false, .bool false] [.veq (.bool (x9)) (.bool false)] (by kernel_rfl) (b_f h5) ?_
  refine RW.nil ?_
  replace s := s.pick [] 3 rfl
  exact fun X h => kc (by kernel_rfl) rfl (h I17 false _ hf s kk)
  have hf := iteF h4 hf
  refine RW.seg hT 11 [] [(68, .bool false)] [.bool false, undef, undef, undef, .bool false, .bool false, undef, undef, undef, .bool false, .bool false] [.veq (.bool (decide (x3.2.2 = x4.2.2))) (.bool false)] (by kernel_rfl) (bo_f h4) ?_
  refine RW.nil ?_
  replace s := s.pick [] 3 rfl
  exact fun X h => kc (by kernel_rfl) rfl (h I16 false _ hf s kk)
  have hf := iteF h3 hf
  refine RW.seg hT 16 [] [(63, .bool false)] [.bool false, undef, undef, undef, .bool false, .bool false, undef, undef, undef, .bool false, .bool false, undef, undef, undef, .bool false, .bool false] [.veq (.bool (x8)) (.bool false)] (by kernel_rfl) (b_f h3) ?_
  refine RW.nil ?_
  replace s := s.pick [] 3 rfl
  exact fun X h => kc (by kernel_rfl) rfl (h I16 false _ hf s kk)
  have hf := iteF h2 hf
  refine RW.seg hT 21 [] [(58, .bool false)] [.bool false, undef, undef, undef, .bool false, .bool false, undef, undef, undef, .bool false, .bool false, undef, undef, undef, .bool false, .bool false, undef, undef, undef, .bool false, .bool false] [.veq (.bool (decide (x3.1 = x4.1))) (.bool false)] (by kernel_rfl) (bo_f h2) ?_
  refine RW.nil ?_
  replace s := s.pick [] 3 rfl
  exact fun X h => kc (by kernel_rfl) rfl (h I14 false _ hf s kk)
  refine WPK.region ?_
  obtain ⟨x10, hx8, hf⟩ := bindS hf
  refine RW.op (by kernel_rfl) (OK.call' en11 (by kernel_rfl) (c11 (F := (.blk b1 (.cells #[.bool p0.Leaf, .slice A1 p0.Pairs.length u1, .slice A2 p0.Keys.length u2, .slice A3 p0.Kids.length u3] 26 (0, 0))) :: F) s hx8) ?_)
  intro X10 hX10
  refine fun _ _ hJ => hJ X10 ?_
  clear s
  intro I18 w16 s k21
  refine hX10 _ _ ?_
  replace e1 := e1.st k21
  replace e2 := e2.st k21
  replace e3 := e3.st k21
  replace e4 := e4.st k21
  replace kk := kk.trans k21
  refine RW.seg hT 1 [] [(18, .bool (decide (¬ (x10 = true))))] [.bool (decide (¬ (x10 = true)))] [.veq (.bool (!x10)) (.bool (decide (¬ (x10 = true))))] (by kernel_rfl) (not_b) ?_
  by_cases h6 : ¬ (x10 = true)
  have hf := iteT h6 hf
  refine RW.seg hT 11 [] [(19, .bool true)] [.bool true, undef, undef, undef, undef, .bool true, .bool true, undef, undef, undef, .bool true] [.veq (.bool (decide (¬ (x10 = true)))) (.bool true)] (by kernel_rfl) (bo_t h6) ?_
  refine RW.nil ?_
  exact fun X h => kc (by kernel_rfl) rfl (h I18 true _ hf s kk e4 e1 e2 e3)
  have hf := iteF h6 hf
  refine RW.seg hT 2 [.agg #[.bool p0.Leaf, .slice A1 p0.Pairs.length u1, .slice A2 p0.Keys.length u2, .slice A3 p0.Kids.length u3]] [(19, .bool false)] [.bool false, .agg #[.bool p0.Leaf, .slice A1 p0.Pairs.length u1, .slice A2 p0.Keys.length u2, .slice A3 p0.Kids.length u3]] [.veq (.bool (decide (¬ (x10 = true)))) (.bool false), .cells ⟨b1, 0, none⟩ [.bool p0.Leaf, .slice A1 p0.Pairs.length u1, .slice A2 p0.Keys.length u2, .slice A3 p0.Kids.length u3] 4] (by kernel_rfl) (⟨bo_f h6, s.cells (i := 0) rfl rfl rfl⟩) ?_
  refine RW.op (by kernel_rfl) (OK.new hT (f := fun b => .slice (some ⟨b, 0, none⟩) 1 1) (cs := [.bool p0.Leaf, .slice A1 p0.Pairs.length u1, .slice A2 p0.Keys.length u2, .slice A3 p0.Kids.length u3]) (e := 26) (c := .tt) s (by kernel_rfl) trivial ?_)
  clear s
  rintro w17 b4 s k22 -
  replace e1 := e1.st k22
  replace e2 := e2.st k22
  replace e3 := e3.st k22
  replace e4 := e4.st k22
  replace kk := kk.trans k22
  have rp9 : RepL rp_T_api_Node I18 w17 [.bool p0.Leaf, .slice A1 p0.Pairs.length u1, .slice A2 p0.Keys.length u2, .slice A3 p0.Kids.length u3] ([p0] : List T_api_Node) := RepL.cons (c := [.bool p0.Leaf, .slice A1 p0.Pairs.length u1, .slice A2 p0.Keys.length u2, .slice A3 p0.Kids.length u3]) (d := []) (⟨[.bool p0.Leaf], [.slice A1 p0.Pairs.length u1, .slice A2 p0.Keys.length u2, .slice A3 p0.Kids.length u3], rfl, rfl, ⟨[.slice A1 p0.Pairs.length u1], [.slice A2 p0.Keys.length u2, .slice A3 p0.Kids.length u3], rfl, ⟨_, _, rfl, hc1.1, hc1.2, e1⟩, ⟨[.slice A2 p0.Keys.length u2], [.slice A3 p0.Kids.length u3], rfl, ⟨_, _, rfl, hc2.1, hc2.2, e2⟩, ⟨_, _, rfl, hc3.1, hc3.2, e3⟩⟩⟩⟩) (RepL.nil)
  replace s : St w1 M I18 ((.sl (.slice (some ⟨b4, 0, none⟩) 1 1) 26 4 1 [.bool p0.Leaf, .slice A1 p0.Pairs.length u1, .slice A2 p0.Keys.length u2, .slice A3 p0.Kids.length u3]) :: (.blk b1 (.cells #[.bool p0.Leaf, .slice A1 p0.Pairs.length u1, .slice A2 p0.Keys.length u2, .slice A3 p0.Kids.length u3] 26 (0, 0))) :: F) w17 := s.blkSl (i := 0) (n := 1) (c := 1) (size := 4) rfl rfl (Nat.le_refl _) (by decide)
  have sa1 := s
  obtain ⟨hc13, e13⟩ := St.lend s (i := 0) rfl rfl rp9
  have k23 := Kp.shut (I := I18) (w := w17) (p := .sl (.slice (some ⟨b4, 0, none⟩) 1 1) 26 4 1 [.bool p0.Leaf, .slice A1 p0.Pairs.length u1, .slice A2 p0.Keys.length u2, .slice A3 p0.Kids.length u3])
  replace s := s.shut 0 rfl
  obtain ⟨x11, hx9, hf⟩ := bindS hf
  refine RW.op (by kernel_rfl) (OK.call' en12 (by kernel_rfl) (c12 (F := (.blk b1 (.cells #[.bool p0.Leaf, .slice A1 p0.Pairs.length u1, .slice A2 p0.Keys.length u2, .slice A3 p0.Kids.length u3] 26 (0, 0))) :: F) ([p0] : List T_api_Node) (some ⟨b4, 0, none⟩) 1 hc13 e13 s hx9) ?_)
  intro X11 hX11
  refine fun _ _ hJ => hJ X11 ?_
  clear s
  intro I19 w18 s k24
  refine hX11 _ _ ?_
  have s' := St.back sa1 (i := 0) rfl s k24
  replace k24 := Kp.back sa1 (i := 0) rfl k24
  replace s := s'; clear s'
  obtain ⟨I20, s, k24⟩ : ∃ I : Nat → Prop, St w1 M I ((.sl (.slice (some ⟨b4, 0, none⟩) 1 1) 26 4 1 [.bool p0.Leaf, .slice A1 p0.Pairs.length u1, .slice A2 p0.Keys.length u2, .slice A3 p0.Kids.length u3]) :: (.blk b1 (.cells #[.bool p0.Leaf, .slice A1 p0.Pairs.length u1, .slice A2 p0.Keys.length u2, .slice A3 p0.Kids.length u3] 26 (0, 0))) :: F) w18 ∧ Kp _ _ I _ := ⟨_, s, k24⟩
  replace e1 := e1.st k24
  replace e2 := e2.st k24
  replace e3 := e3.st k24
  replace e4 := e4.st k24
  replace rp9 := rp9.st k24
  replace kk := kk.trans k24
  refine RW.seg hT 2 [] [(23, .bool (decide (¬ (x11 = true))))] [.bool (decide (¬ (x11 = true))), .bool (decide (¬ (x11 = true)))] [.veq (.bool (!x11)) (.bool (decide (¬ (x11 = true))))] (by kernel_rfl) (not_b) ?_
  by_cases h7 : ¬ (x11 = true)
  have hf := iteT h7 hf
  refine RW.seg hT 5 [] [(25, .bool true)] [.bool true, undef, undef, undef, .bool true] [.veq (.bool (decide (¬ (x11 = true)))) (.bool true)] (by kernel_rfl) (bo_t h7) ?_
  refine RW.nil ?_
  replace s := s.pick [1] 2 rfl
  exact fun X h => kc (by kernel_rfl) rfl (h I20 true _ hf s kk e4 e1 e2 e3)
  have hf := iteF h7 hf
  refine RW.seg hT 5 [] [(25, .bool false)] [.bool false, .slice A4 p2.length u4, .int .i64 (p2.length : Int), .bool (decide ((p2.length : Int) > 3000)), .bool (decide ((p2.length : Int) > 3000))] [.veq (.bool (decide (¬ (x11 = true)))) (.bool false)] (by kernel_rfl) (bo_f h7) ?_
  refine RW.nil ?_
  replace s := s.pick [1] 2 rfl
  exact fun X h => kc (by kernel_rfl) rfl (h I20 (decide ((p2.length : Int) > 3000)) _ hf s kk e4 e1 e2 e3)
end Go.Proofs.Ytefjbhogpgihaaa
