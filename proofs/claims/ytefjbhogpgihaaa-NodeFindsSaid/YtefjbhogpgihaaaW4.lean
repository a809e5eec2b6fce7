/- PRINTED BY sy.py: each call computes what the plain function of its number tells. -/
import Derived.Test.YtefjbhogpgihaaaW3
namespace Go.Proofs.Ytefjbhogpgihaaa
open Go Go.SX Go.RowKit
set_option maxRecDepth 100000
set_option linter.unusedVariables false
attribute [local irreducible] WPK RW RD Ret SX.Fin SX.Any opK RoundBeg RoundEnd RangeEnd Rounds
theorem c4 {w1 w : World} {M I : Nat → Prop} {F : List It} (p0 : T_api_Node) (p1 : (List Int)) (p2 : Int) (A1 : Option Addr) (u1 : Nat) (A2 : Option Addr) (u2 : Nat) (A3 : Option Addr) (u3 : Nat) (A4 : Option Addr) (u4 : Nat) (hc1 : (p0.Pairs.length ≤ u1 ∧ u1 ≤ 9223372036854775807)) (e1 : Elems rp_T_api_Pair I w A1 p0.Pairs) (hc2 : (p0.Keys.length ≤ u2 ∧ u2 ≤ 9223372036854775807)) (e2 : Elems (Rp.slice (Rp.int .u8)) I w A2 p0.Keys) (hc3 : (p0.Kids.length ≤ u3 ∧ u3 ≤ 9223372036854775807)) (e3 : Elems (Rp.int .i64) I w A3 p0.Kids) (hc4 : (p1.length ≤ u4 ∧ u4 ≤ 9223372036854775807)) (e4 : Elems (Rp.int .u8) I w A4 p1) (s : St w1 M I (F) w) {r : Bool} (hf : g4 p0 p1 p2 = some r) :
    Ret Try.prog 4 [.agg #[.bool p0.Leaf, .slice A1 p0.Pairs.length u1, .slice A2 p0.Keys.length u2, .slice A3 p0.Kids.length u3], .slice A4 p1.length u4, .int .u8 p2] w fun v wz => ∀ X : Value → World → Prop, (∀ (I' : Nat → Prop) (w' : World), St w1 M I' (F) w' → Kp I w I' w' → X (.bool r) w') → X v wz := by
  have kk : Kp I w I w := Kp.refl
  unfold g4 at hf
  refine Ret.of Try.func4 rfl ?_
  refine WPK.seq ?_
  refine WPK.region ?_
  refine RW.op (by kernel_rfl) (OK.new hT (f := fun b => .pointer (some ⟨b, 0, none⟩)) (cs := [.bool p0.Leaf, .slice A1 p0.Pairs.length u1, .slice A2 p0.Keys.length u2, .slice A3 p0.Kids.length u3]) (e := 26) (c := .tt) s (by kernel_rfl) trivial ?_)
  clear s
  rintro w2 b1 s k1 -
  replace e1 := e1.st k1
  replace e2 := e2.st k1
  replace e3 := e3.st k1
  replace e4 := e4.st k1
  replace kk := kk.trans k1
  refine RW.seg hT 1 [] [] [.bool false] [] (by kernel_rfl) (trivial) ?_
  refine RW.nil ?_
  refine WPK.seq ?_
  refine WPK.seq ?_
  refine WPK.cut' (Kn fun D1 ds wz => ∀ X : Kont, (∀ (I1 : Nat → Prop) (x1 : Bool) (w' : World), g4_j1 p0 p1 p2 x1 = some r → St w1 M I1 ((.blk b1 (.cells #[.bool p0.Leaf, .slice A1 p0.Pairs.length u1, .slice A2 p0.Keys.length u2, .slice A3 p0.Kids.length u3] 26 (0, 0))) :: F) w' → Kp I w I1 w' → Elems (Rp.int .u8) I1 w' A4 p1 → Elems rp_T_api_Pair I1 w' A1 p0.Pairs → Elems (Rp.slice (Rp.int .u8)) I1 w' A2 p0.Keys → Elems (Rp.int .i64) I1 w' A3 p0.Kids → X [(D1.getD 0 undef), .slice A4 p1.length u4, .int .u8 p2, .pointer (some ⟨b1, 0, none⟩), (D1.getD 4 undef), (D1.getD 5 undef), .bool false, undef, undef, undef, undef, undef, undef, (D1.getD 13 undef), (D1.getD 14 undef), (D1.getD 15 undef), (D1.getD 16 undef), (D1.getD 17 undef), (D1.getD 18 undef), (D1.getD 19 undef), (D1.getD 20 undef), (D1.getD 21 undef), (D1.getD 22 undef), (D1.getD 23 undef), (D1.getD 24 undef), .bool x1, undef, undef, undef, undef, undef, undef, undef, undef, undef, undef, undef, undef, undef, undef, undef, undef, undef, undef, undef, undef, undef, undef, undef, undef, undef, undef, undef, undef, undef, undef, undef, undef, undef, undef, undef, undef, undef, undef, undef, undef, undef, undef, undef, undef, undef, undef, undef, undef, undef, undef, undef, undef, undef, undef, undef, undef, undef, undef, undef, undef, undef, undef, undef, undef, undef] [] w') → X D1 ds wz) ?_ ?_
  intro X1 hX1
  refine fun D1 _ _ hJ => hJ X1 ?_
  clear s
  intro I1 x1 w3 hf s kk e4 e1 e2 e3
  refine hX1 _ _ _ ?_
  unfold g4_j1 at hf
  by_cases h1 : x1 = true
  have hf := iteT h1 hf
  refine WPK.condT (Eq.trans (b := .bool x1) (by kernel_rfl) (b_t h1)) ?_
  refine WPK.seq ?_
  refine WPK.region ?_
  obtain ⟨x2, hx1, hf⟩ := bindS hf
  refine RW.op (by kernel_rfl) (OK.call' en11 (by kernel_rfl) (c11 (F := (.blk b1 (.cells #[.bool p0.Leaf, .slice A1 p0.Pairs.length u1, .slice A2 p0.Keys.length u2, .slice A3 p0.Kids.length u3] 26 (0, 0))) :: F) s hx1) ?_)
  intro X2 hX2
  refine fun _ _ hJ => hJ X2 ?_
  clear s
  intro I2 w4 s k2
  refine hX2 _ _ ?_
  replace e4 := e4.st k2
  replace e1 := e1.st k2
  replace e2 := e2.st k2
  replace e3 := e3.st k2
  replace kk := kk.trans k2
  refine RW.seg hT 1 [] [] [.bool x2] [] (by kernel_rfl) (trivial) ?_
  refine RW.nil ?_
  refine WPK.ret (?_)
  obtain rfl := someS hf
  refine Fin.of (rs := [.tmp 6]) hT [] (.bool x2) [] rfl (by kernel_rfl) (trivial) ?_
  replace s := s.pick [] 1 rfl
  exact fun X h => vc rfl (h I2 _ s kk)
  have hf := iteF h1 hf
  refine WPK.condF (Eq.trans (b := .bool x1) (by kernel_rfl) (b_f h1)) ?_
  refine WPK.skip ?_
  refine WPK.seq ?_
  refine WPK.region ?_
  refine RW.seg hT 2 [.agg #[.bool p0.Leaf, .slice A1 p0.Pairs.length u1, .slice A2 p0.Keys.length u2, .slice A3 p0.Kids.length u3]] [] [.agg #[.bool p0.Leaf, .slice A1 p0.Pairs.length u1, .slice A2 p0.Keys.length u2, .slice A3 p0.Kids.length u3], .slice A4 p1.length u4] [.cells ⟨b1, 0, none⟩ [.bool p0.Leaf, .slice A1 p0.Pairs.length u1, .slice A2 p0.Keys.length u2, .slice A3 p0.Kids.length u3] 4] (by kernel_rfl) (s.cells (i := 0) rfl rfl rfl) ?_
  obtain ⟨x3, hx2, hf⟩ := bindS hf
  refine RW.op (by kernel_rfl) (OK.call' en16 (by kernel_rfl) (c16 (F := (.blk b1 (.cells #[.bool p0.Leaf, .slice A1 p0.Pairs.length u1, .slice A2 p0.Keys.length u2, .slice A3 p0.Kids.length u3] 26 (0, 0))) :: F) p0 p1 A1 u1 A2 u2 A3 u3 A4 u4 hc1 e1 hc2 e2 hc3 e3 hc4 e4 s hx2) ?_)
  intro X3 hX3
  refine fun _ _ hJ => hJ X3 ?_
  clear s
  intro I3 w5 s k3
  refine hX3 _ _ ?_
  replace e4 := e4.st k3
  replace e1 := e1.st k3
  replace e2 := e2.st k3
  replace e3 := e3.st k3
  replace kk := kk.trans k3
  refine RW.seg hT 5 [] [] [.tuple #[.int .i64 x3.1, .bool x3.2], .int .i64 x3.1, .bool x3.2, .int .i64 x3.1, .bool x3.2] [] (by kernel_rfl) (trivial) ?_
  refine RW.nil ?_
  refine WPK.seq ?_
  refine WPK.region ?_
  refine RW.seg hT 2 [.agg #[.bool p0.Leaf, .slice A1 p0.Pairs.length u1, .slice A2 p0.Keys.length u2, .slice A3 p0.Kids.length u3]] [] [.agg #[.bool p0.Leaf, .slice A1 p0.Pairs.length u1, .slice A2 p0.Keys.length u2, .slice A3 p0.Kids.length u3], .slice A4 p1.length u4] [.cells ⟨b1, 0, none⟩ [.bool p0.Leaf, .slice A1 p0.Pairs.length u1, .slice A2 p0.Keys.length u2, .slice A3 p0.Kids.length u3] 4] (by kernel_rfl) (s.cells (i := 0) rfl rfl rfl) ?_
  obtain ⟨x4, hx3, hf⟩ := bindS hf
  refine RW.op (by kernel_rfl) (OK.call' en17 (by kernel_rfl) (c17 (F := (.blk b1 (.cells #[.bool p0.Leaf, .slice A1 p0.Pairs.length u1, .slice A2 p0.Keys.length u2, .slice A3 p0.Kids.length u3] 26 (0, 0))) :: F) p0 p1 A1 u1 A2 u2 A3 u3 A4 u4 hc1 e1 hc2 e2 hc3 e3 hc4 e4 s hx3) ?_)
  intro X4 hX4
  refine fun _ _ hJ => hJ X4 ?_
  clear s
  intro I4 w6 s k4
  refine hX4 _ _ ?_
  replace e4 := e4.st k4
  replace e1 := e1.st k4
  replace e2 := e2.st k4
  replace e3 := e3.st k4
  replace kk := kk.trans k4
  refine RW.seg hT 5 [] [] [.tuple #[.int .i64 x4.1, .bool x4.2], .int .i64 x4.1, .bool x4.2, .int .i64 x4.1, .bool x4.2] [] (by kernel_rfl) (trivial) ?_
  refine RW.nil ?_
  refine WPK.seq ?_
  refine WPK.region ?_
  refine RW.seg hT 1 [] [] [.slice none 0 0] [] (by kernel_rfl) (trivial) ?_
  refine RW.nil ?_
  refine WPK.seq ?_
  refine WPK.cut' (Kn fun D2 ds wz => ∀ X : Kont, (∀ (I5 : Nat → Prop) (x5 : (List T_api_Pair)) (A5 : Option Addr) (u5 : Nat) (w' : World), g4_j2 p0 p1 p2 x3 x4 x5 = some r → St w1 M I5 ((.blk b1 (.cells #[.bool p0.Leaf, .slice A1 p0.Pairs.length u1, .slice A2 p0.Keys.length u2, .slice A3 p0.Kids.length u3] 26 (0, 0))) :: F) w' → Kp I w I5 w' → Elems (Rp.int .u8) I5 w' A4 p1 → (x5.length ≤ u5 ∧ u5 ≤ 9223372036854775807) → Elems rp_T_api_Pair I5 w' A5 x5 → Elems rp_T_api_Pair I5 w' A1 p0.Pairs → Elems (Rp.slice (Rp.int .u8)) I5 w' A2 p0.Keys → Elems (Rp.int .i64) I5 w' A3 p0.Kids → X [(D2.getD 0 undef), .slice A4 p1.length u4, .int .u8 p2, .pointer (some ⟨b1, 0, none⟩), (D2.getD 4 undef), (D2.getD 5 undef), .bool false, .int .i64 x3.1, .bool x3.2, .int .i64 x4.1, .bool x4.2, .slice A5 x5.length u5, undef, (D2.getD 13 undef), (D2.getD 14 undef), (D2.getD 15 undef), (D2.getD 16 undef), (D2.getD 17 undef), (D2.getD 18 undef), (D2.getD 19 undef), (D2.getD 20 undef), (D2.getD 21 undef), (D2.getD 22 undef), (D2.getD 23 undef), (D2.getD 24 undef), (D2.getD 25 undef), (D2.getD 26 undef), (D2.getD 27 undef), (D2.getD 28 undef), (D2.getD 29 undef), (D2.getD 30 undef), (D2.getD 31 undef), (D2.getD 32 undef), (D2.getD 33 undef), (D2.getD 34 undef), (D2.getD 35 undef), (D2.getD 36 undef), (D2.getD 37 undef), (D2.getD 38 undef), (D2.getD 39 undef), (D2.getD 40 undef), (D2.getD 41 undef), (D2.getD 42 undef), (D2.getD 43 undef), (D2.getD 44 undef), (D2.getD 45 undef), (D2.getD 46 undef), undef, undef, undef, undef, undef, undef, undef, undef, undef, undef, undef, undef, undef, undef, undef, undef, undef, undef, undef, undef, undef, undef, undef, undef, undef, undef, undef, undef, undef, undef, undef, undef, undef, undef, undef, undef, undef, undef, undef, undef, undef, undef, undef, undef] [] w') → X D2 ds wz) ?_ ?_
  intro X5 hX5
  refine fun D2 _ _ hJ => hJ X5 ?_
  clear s
  intro I5 x5 A5 u5 w7 hf s kk e4 hc5 e5 e1 e2 e3
  refine hX5 _ _ _ ?_
  unfold g4_j2 at hf
  refine WPK.seq ?_
  refine WPK.region ?_
  obtain ⟨x6, hx4, hf⟩ := bindS hf
  refine RW.seg hT 6 [undef] [(12, .int .i64 x6)] [.slice A5 x5.length u5, .int .i64 (x5.length : Int), .int .u8 p2, .int .i64 (IntKind.i64.wrap p2), .int .i64 (if IntKind.i64.wrap p2 < (x5.length : Int) then IntKind.i64.wrap p2 else (x5.length : Int)), .int .i64 x6] [.veq (.int .i64 (if IntKind.i64.wrap p2 < (x5.length : Int) then IntKind.i64.wrap p2 else (x5.length : Int))) (.int .i64 x6)] (by kernel_rfl) (int_v (someS hx4)) ?_
  refine RW.nil ?_
  refine WPK.seq ?_
  refine WPK.cut' (Kn fun D3 ds wz => ∀ X : Kont, (∀ (I6 : Nat → Prop) (x7 : Bool) (w' : World), g4_j3 x7 = some r → St w1 M I6 (F) w' → Kp I w I6 w' → X [(D3.getD 0 undef), (D3.getD 1 undef), (D3.getD 2 undef), (D3.getD 3 undef), (D3.getD 4 undef), (D3.getD 5 undef), .bool x7, (D3.getD 7 undef), (D3.getD 8 undef), (D3.getD 9 undef), (D3.getD 10 undef), (D3.getD 11 undef), (D3.getD 12 undef), (D3.getD 13 undef), (D3.getD 14 undef), (D3.getD 15 undef), (D3.getD 16 undef), (D3.getD 17 undef), (D3.getD 18 undef), (D3.getD 19 undef), (D3.getD 20 undef), (D3.getD 21 undef), (D3.getD 22 undef), (D3.getD 23 undef), (D3.getD 24 undef), (D3.getD 25 undef), (D3.getD 26 undef), (D3.getD 27 undef), (D3.getD 28 undef), (D3.getD 29 undef), (D3.getD 30 undef), (D3.getD 31 undef), (D3.getD 32 undef), (D3.getD 33 undef), (D3.getD 34 undef), (D3.getD 35 undef), (D3.getD 36 undef), (D3.getD 37 undef), (D3.getD 38 undef), (D3.getD 39 undef), (D3.getD 40 undef), (D3.getD 41 undef), (D3.getD 42 undef), (D3.getD 43 undef), (D3.getD 44 undef), (D3.getD 45 undef), (D3.getD 46 undef), (D3.getD 47 undef), (D3.getD 48 undef), (D3.getD 49 undef), (D3.getD 50 undef), (D3.getD 51 undef), (D3.getD 52 undef), (D3.getD 53 undef), (D3.getD 54 undef), (D3.getD 55 undef), (D3.getD 56 undef), (D3.getD 57 undef), (D3.getD 58 undef), (D3.getD 59 undef), (D3.getD 60 undef), (D3.getD 61 undef), (D3.getD 62 undef), (D3.getD 63 undef), (D3.getD 64 undef), (D3.getD 65 undef), (D3.getD 66 undef), (D3.getD 67 undef), (D3.getD 68 undef), (D3.getD 69 undef), (D3.getD 70 undef), (D3.getD 71 undef), (D3.getD 72 undef), (D3.getD 73 undef), (D3.getD 74 undef), (D3.getD 75 undef), (D3.getD 76 undef), (D3.getD 77 undef), (D3.getD 78 undef), (D3.getD 79 undef), (D3.getD 80 undef), (D3.getD 81 undef), (D3.getD 82 undef), (D3.getD 83 undef), (D3.getD 84 undef), (D3.getD 85 undef), (D3.getD 86 undef), (D3.getD 87 undef), (D3.getD 88 undef), (D3.getD 89 undef), (D3.getD 90 undef)] [] w') → X D3 ds wz) ?_ ?_
  intro X6 hX6
  refine fun D3 _ _ hJ => hJ X6 ?_
  clear s
  intro I6 x7 w8 hf s kk
  refine hX6 _ _ _ ?_
  unfold g4_j3 at hf
  refine WPK.ret (?_)
  obtain rfl := someS hf
  refine Fin.of (rs := [.tmp 6]) hT [] (.bool x7) [] rfl (by kernel_rfl) (trivial) ?_
  exact fun X h => vc rfl (h I6 _ s kk)
  have e4S1 := e4
  have e5S1 := e5
  have e1S1 := e1
  have e2S1 := e2
  have e3S1 := e3
  have kS1 : Kp I5 w7 I5 w7 := Kp.refl
  refine WPK.drawM (fun w' => ∃ I' : Nat → Prop, St w1 M I' ((.blk b1 (.cells #[.bool p0.Leaf, .slice A1 p0.Pairs.length u1, .slice A2 p0.Keys.length u2, .slice A3 p0.Kids.length u3] 26 (0, 0))) :: F) w' ∧ Kp I5 w7 I' w') 40 [0, 0, 3, 7, 15, 15, 63, 127, 255, 511, 511, 2047, 511, 511, 16383, 32767, 65535, 131071, 262143, 524287, 1048575, 2097151, 262143, 8388607, 16777215, 33554431, 67108863, 134217727, 268435455, 134217727, 671088639, 2147483647, 4294967295, 134217727, 134217727, 25904021503, 68719476735, 137438953471, 274877906943, 549755813887] (by kernel_rfl) (by kernel_rfl) ?_
  intro ht1 w9 hd1
  have k5 := Kp.dr s hd1
  replace s := s.dr hd1
  replace e4 := e4.st k5
  replace e5 := e5.st k5
  replace e1 := e1.st k5
  replace e2 := e2.st k5
  replace e3 := e3.st k5
  replace kk := kk.trans k5
  replace kS1 := kS1.trans k5
  refine RD.segM hT ht1 (by kernel_rfl) [0, 1, 2] [] [(54, .bool (decide (x3.1 = x4.1)))] [.int .i64 x3.1, .int .i64 x4.1, .bool (decide (x3.1 = x4.1))] [.veq (.bool (x3.1 == x4.1)) (.bool (decide (x3.1 = x4.1)))] (by kernel_rfl) (by rintro w' ⟨I', s, k⟩; have e4 := e4S1.st k; have e5 := e5S1.st k; have e1 := e1S1.st k; have e2 := e2S1.st k; have e3 := e3S1.st k; exact eq_v) ⟨_, s.pick [0] 1 rfl, kS1⟩ ?_
  by_cases h2 : x3.1 = x4.1
  have hf := iteT h2 hf
  refine RD.segM hT ht1 (by kernel_rfl) [3, 4, 5, 6, 7] [] [(55, .bool true), (58, .bool (decide (x3.2 = x4.2)))] [.bool true, .bool x3.2, .bool x4.2, .bool (decide (x3.2 = x4.2)), .bool (decide (x3.2 = x4.2))] [.veq (.bool (decide (x3.1 = x4.1))) (.bool true), .veq (.bool (x3.2 == x4.2)) (.bool (decide (x3.2 = x4.2)))] (by kernel_rfl) (by rintro w' ⟨I', s, k⟩; have e4 := e4S1.st k; have e5 := e5S1.st k; have e1 := e1S1.st k; have e2 := e2S1.st k; have e3 := e3S1.st k; exact ⟨bo_t h2, beq_v⟩) ⟨_, s.pick [0] 1 rfl, kS1⟩ ?_
  by_cases h3 : x3.2 = x4.2
  have hf := iteT h3 hf
  refine RD.segM hT ht1 (by kernel_rfl) [8, 9, 10, 12, 13] [.agg #[.bool p0.Leaf, .slice A1 p0.Pairs.length u1, .slice A2 p0.Keys.length u2, .slice A3 p0.Kids.length u3], .agg #[.bool p0.Leaf, .slice A1 p0.Pairs.length u1, .slice A2 p0.Keys.length u2, .slice A3 p0.Kids.length u3]] [(60, .bool true)] [.bool true, .agg #[.bool p0.Leaf, .slice A1 p0.Pairs.length u1, .slice A2 p0.Keys.length u2, .slice A3 p0.Kids.length u3], .slice A4 p1.length u4, .agg #[.bool p0.Leaf, .slice A1 p0.Pairs.length u1, .slice A2 p0.Keys.length u2, .slice A3 p0.Kids.length u3], .slice A4 p1.length u4] [.veq (.bool (decide (x3.2 = x4.2))) (.bool true), .cells ⟨b1, 0, none⟩ [.bool p0.Leaf, .slice A1 p0.Pairs.length u1, .slice A2 p0.Keys.length u2, .slice A3 p0.Kids.length u3] 4, .cells ⟨b1, 0, none⟩ [.bool p0.Leaf, .slice A1 p0.Pairs.length u1, .slice A2 p0.Keys.length u2, .slice A3 p0.Kids.length u3] 4] (by kernel_rfl) (by rintro w' ⟨I', s, k⟩; have e4 := e4S1.st k; have e5 := e5S1.st k; have e1 := e1S1.st k; have e2 := e2S1.st k; have e3 := e3S1.st k; exact ⟨bo_t h3, s.cells (i := 0) rfl rfl rfl, s.cells (i := 0) rfl rfl rfl⟩) ⟨_, s.pick [0] 1 rfl, kS1⟩ ?_
  obtain ⟨x8, hx5, hf⟩ := bindS hf
  refine RD.op (i := 11) rfl (by kernel_rfl) (by kernel_rfl) (OK.call' en13 (by kernel_rfl) (c13 (F := (.blk b1 (.cells #[.bool p0.Leaf, .slice A1 p0.Pairs.length u1, .slice A2 p0.Keys.length u2, .slice A3 p0.Kids.length u3] 26 (0, 0))) :: F) p0 p1 A1 u1 A2 u2 A3 u3 A4 u4 hc1 e1 hc2 e2 hc3 e3 hc4 e4 s hx5) ?_)
  intro X7 hX7
  refine fun _ _ hJ => hJ X7 ?_
  clear s
  intro I7 w10 s k6
  refine hX7 _ _ ?_
  replace e4 := e4.st k6
  replace e5 := e5.st k6
  replace e1 := e1.st k6
  replace e2 := e2.st k6
  replace e3 := e3.st k6
  replace kk := kk.trans k6
  replace kS1 := kS1.trans k6
  refine ⟨fun _ => ⟨_, s.pick [0] 1 rfl, kS1⟩, RD.fold ?_⟩
  obtain ⟨x9, hx6, hf⟩ := bindS hf
  refine RD.op (i := 14) rfl (by kernel_rfl) (by kernel_rfl) (OK.call' en19 (by kernel_rfl) (c19 (F := (.blk b1 (.cells #[.bool p0.Leaf, .slice A1 p0.Pairs.length u1, .slice A2 p0.Keys.length u2, .slice A3 p0.Kids.length u3] 26 (0, 0))) :: F) p0 p1 A1 u1 A2 u2 A3 u3 A4 u4 hc1 e1 hc2 e2 hc3 e3 hc4 e4 s hx6) ?_)
  intro X8 hX8
  refine fun _ _ hJ => hJ X8 ?_
  clear s
  intro I8 w11 s k7
  refine hX8 _ _ ?_
  replace e4 := e4.st k7
  replace e5 := e5.st k7
  replace e1 := e1.st k7
  replace e2 := e2.st k7
  replace e3 := e3.st k7
  replace kk := kk.trans k7
  replace kS1 := kS1.trans k7
  refine ⟨fun _ => ⟨_, s.pick [0] 1 rfl, kS1⟩, RD.fold ?_⟩
  refine RD.segM hT ht1 (by kernel_rfl) [15, 16] [] [(67, .bool (decide (x8 = x9)))] [.bool (decide (x8 = x9)), .bool (decide (x8 = x9))] [.veq (.bool (x8 == x9)) (.bool (decide (x8 = x9)))] (by kernel_rfl) (by rintro w' ⟨I', s, k⟩; have e4 := e4S1.st k; have e5 := e5S1.st k; have e1 := e1S1.st k; have e2 := e2S1.st k; have e3 := e3S1.st k; exact eq_v) ⟨_, s.pick [0] 1 rfl, kS1⟩ ?_
  by_cases h4 : x8 = x9
  have hf := iteT h4 hf
  refine RD.segM hT ht1 (by kernel_rfl) [17, 18, 22] [.agg #[.bool p0.Leaf, .slice A1 p0.Pairs.length u1, .slice A2 p0.Keys.length u2, .slice A3 p0.Kids.length u3]] [(69, .bool true)] [.bool true, .agg #[.bool p0.Leaf, .slice A1 p0.Pairs.length u1, .slice A2 p0.Keys.length u2, .slice A3 p0.Kids.length u3], .slice A5 x5.length u5] [.veq (.bool (decide (x8 = x9))) (.bool true), .cells ⟨b1, 0, none⟩ [.bool p0.Leaf, .slice A1 p0.Pairs.length u1, .slice A2 p0.Keys.length u2, .slice A3 p0.Kids.length u3] 4] (by kernel_rfl) (by rintro w' ⟨I', s, k⟩; have e4 := e4S1.st k; have e5 := e5S1.st k; have e1 := e1S1.st k; have e2 := e2S1.st k; have e3 := e3S1.st k; exact ⟨bo_t h4, s.cells (i := 0) rfl rfl rfl⟩) ⟨_, s.pick [0] 1 rfl, kS1⟩ ?_
  refine RD.op (i := 19) rfl (by kernel_rfl) (by kernel_rfl) (OK.inl (args := [.agg #[.bool p0.Leaf, .slice A1 p0.Pairs.length u1, .slice A2 p0.Keys.length u2, .slice A3 p0.Kids.length u3]]) en23 (by kernel_rfl) ?_)
  intro R1 hR1
  refine Ret.of Try.func23 rfl ?_
  refine WPK.seq ?_
  refine WPK.region ?_
  refine RW.op (by kernel_rfl) (OK.new hT (f := fun b => .pointer (some ⟨b, 0, none⟩)) (cs := [.bool p0.Leaf, .slice A1 p0.Pairs.length u1, .slice A2 p0.Keys.length u2, .slice A3 p0.Kids.length u3]) (e := 26) (c := .tt) s (by kernel_rfl) trivial ?_)
  clear s
  rintro w12 b2 s k8 -
  replace e1 := e1.st k8
  replace e2 := e2.st k8
  replace e3 := e3.st k8
  replace e5 := e5.st k8
  replace kk := kk.trans k8
  replace kS1 := kS1.trans k8
  refine RW.seg hT 1 [] [] [.nilFunc] [] (by kernel_rfl) (trivial) ?_
  refine RW.nil ?_
  refine WPK.seq ?_
  refine WPK.region ?_
  refine RW.seg hT 2 [] [] [.func (.func 56) #[] #[.pointer (some ⟨b2, 0, none⟩)], .func (.func 56) #[] #[.pointer (some ⟨b2, 0, none⟩)]] [] (by kernel_rfl) (trivial) ?_
  refine RW.nil ?_
  refine WPK.ret (?_)
  refine Fin.of (rs := [.tmp 2]) hT [] (.func (.func 56) #[] #[.pointer (some ⟨b2, 0, none⟩)]) [] rfl (by kernel_rfl) (trivial) ?_
  refine hR1 _ _ ?_
  refine ⟨fun _ => ⟨_, s.pick [1] 2 rfl, kS1⟩, RD.fold ?_⟩
  refine RD.op (i := 20) rfl (by kernel_rfl) (by kernel_rfl) (OK.inl (args := [.func (.func 56) #[] #[.pointer (some ⟨b2, 0, none⟩)], .int .i64 1048576]) en22 (by kernel_rfl) ?_)
  intro R2 hR2
  refine Ret.of Try.func22 rfl ?_
  refine WPK.seq ?_
  refine WPK.region ?_
  refine RW.op (by kernel_rfl) (OK.new hT (f := fun b => .pointer (some ⟨b, 0, none⟩)) (cs := [.int .i64 1048576]) (e := 3) (c := .tt) s (by kernel_rfl) trivial ?_)
  clear s
  rintro w13 b3 s k9 -
  replace e5 := e5.st k9
  replace e1 := e1.st k9
  replace e2 := e2.st k9
  replace e3 := e3.st k9
  replace kk := kk.trans k9
  replace kS1 := kS1.trans k9
  refine RW.seg hT 1 [] [] [.slice none 0 0] [] (by kernel_rfl) (trivial) ?_
  refine RW.nil ?_
  refine WPK.seq ?_
  refine WPK.region ?_
  refine RW.op (by kernel_rfl) (OK.new hT (f := fun b => .pointer (some ⟨b, 0, none⟩)) (cs := [.slice none 0 0]) (e := 22) (c := .tt) s (by kernel_rfl) trivial ?_)
  clear s
  rintro w14 b4 s k10 -
  replace e5 := e5.st k10
  replace e1 := e1.st k10
  replace e2 := e2.st k10
  replace e3 := e3.st k10
  replace kk := kk.trans k10
  replace kS1 := kS1.trans k10
  refine RW.nil ?_
  refine WPK.seq ?_
  refine WPK.seq ?_
  refine WPK.region ?_
  refine RW.seg hT 2 [] [] [.func (.func 56) #[] #[.pointer (some ⟨b2, 0, none⟩)], .bool false] [] (by kernel_rfl) (trivial) ?_
  refine RW.nil ?_
  refine WPK.condF (by kernel_rfl) ?_
  refine WPK.skip ?_
  refine WPK.seq ?_
  refine WPK.cut' (Kn fun D4 ds wz => ∀ X : Kont, (∀ (I9 : Nat → Prop) (x10 : (List T_api_Pair)) (d1 : Nat) (A6 : Option Addr) (u6 : Nat) (cl1 : List Value) (w' : World), g4_j4 p0 p2 x5 x6 x10 = some r → St w1 M I9 ((.blk b4 (.cells #[.slice A6 x10.length u6] 22 (0, 0))) :: (.blk b1 (.cells #[.bool p0.Leaf, .slice A1 p0.Pairs.length u1, .slice A2 p0.Keys.length u2, .slice A3 p0.Kids.length u3] 26 (0, 0))) :: (.blk d1 (.deferred (some []))) :: (.sl (.slice A6 x10.length u6) 48 2 x10.length cl1) :: F) w' → Kp I w I9 w' → Kp I5 w7 I9 w' → RepL rp_T_api_Pair I9 w' cl1 x10 → Elems rp_T_api_Pair I9 w' A1 p0.Pairs → Elems (Rp.slice (Rp.int .u8)) I9 w' A2 p0.Keys → Elems (Rp.int .i64) I9 w' A3 p0.Kids → Elems rp_T_api_Pair I9 w' A5 x5 → X [(D4.getD 0 undef), (D4.getD 1 undef), (D4.getD 2 undef), (D4.getD 3 undef), .slice none 0 0, .pointer (some ⟨b4, 0, none⟩), (D4.getD 6 undef), (D4.getD 7 undef), (D4.getD 8 undef), (D4.getD 9 undef), (D4.getD 10 undef), (D4.getD 11 undef), (D4.getD 12 undef), (D4.getD 13 undef), (D4.getD 14 undef), (D4.getD 15 undef), (D4.getD 16 undef), (D4.getD 17 undef), (D4.getD 18 undef), (D4.getD 19 undef), (D4.getD 20 undef), (D4.getD 21 undef), (D4.getD 22 undef), undef] [mk d1] w') → X D4 ds wz) ?_ ?_
  intro X9 hX9
  refine fun D4 _ _ hJ => hJ X9 ?_
  clear s
  intro I9 x10 d1 A6 u6 cl1 w15 hf s kk kS1 rp1 e1 e2 e3 e5
  refine hX9 _ _ _ ?_
  unfold g4_j4 at hf
  refine WPK.seq ?_
  refine WPK.region ?_
  refine RW.seg hT 2 [.slice A6 x10.length u6] [] [.slice A6 x10.length u6, .slice A6 x10.length u6] [.cell ⟨b4, 0, none⟩ (.slice A6 x10.length u6)] (by kernel_rfl) (s.cell (i := 0) (off := 0) rfl rfl) ?_
  refine RW.nil ?_
  refine WPK.ret (?_)
  refine Fin.mark (i := 2) s rfl ?_
  clear s
  intro w16 s k11
  replace e5 := e5.st k11
  replace e1 := e1.st k11
  replace e2 := e2.st k11
  replace e3 := e3.st k11
  replace rp1 := rp1.st k11
  replace kk := kk.trans k11
  replace kS1 := kS1.trans k11
  refine Fin.of (rs := [.tmp 4]) hT [] (.slice A6 x10.length u6) [] rfl (by kernel_rfl) (trivial) ?_
  refine hR2 _ _ ?_
  refine ⟨fun _ => ⟨_, s.pick [1] 3 rfl, kS1⟩, RD.fold ?_⟩
  refine RD.op (i := 21) rfl (by kernel_rfl) (by kernel_rfl) (OK.inl (args := [.slice A6 x10.length u6]) en21 (by kernel_rfl) ?_)
  intro R3 hR3
  refine Ret.of Try.func21 rfl ?_
  refine WPK.seq ?_
  refine WPK.region ?_
  refine RW.op (by kernel_rfl) (OK.new hT (f := fun b => .pointer (some ⟨b, 0, none⟩)) (cs := [.bool false, .slice none 0 0, .slice none 0 0, .slice none 0 0]) (e := 26) (c := .tt) s (by kernel_rfl) trivial ?_)
  clear s
  rintro w17 b5 s k12 -
  replace e5 := e5.st k12
  replace e1 := e1.st k12
  replace e2 := e2.st k12
  replace e3 := e3.st k12
  replace rp1 := rp1.st k12
  replace kk := kk.trans k12
  replace kS1 := kS1.trans k12
  refine RW.nil ?_
  refine WPK.seq ?_
  refine WPK.region ?_
  refine RW.seg hT 2 [] [] [.slice A6 x10.length u6, .agg #[.bool true, .slice A6 x10.length u6, .slice none 0 0, .slice none 0 0]] [] (by kernel_rfl) (trivial) ?_
  refine RW.op (by kernel_rfl) (OK.store hT (i := 0) (b := b5) (off := 0) (n := 4) (vs := [.bool true, .slice A6 x10.length u6, .slice none 0 0, .slice none 0 0]) (cs := [.bool false, .slice none 0 0, .slice none 0 0, .slice none 0 0]) (e := 26) s (by kernel_rfl) rfl rfl (flat_ok rfl) (Nat.le_of_ble_eq_true rfl) ?_)
  clear s
  rintro w18 s k13 -
  replace e5 := e5.st k13
  replace e1 := e1.st k13
  replace e2 := e2.st k13
  replace e3 := e3.st k13
  replace rp1 := rp1.st k13
  replace kk := kk.trans k13
  replace kS1 := kS1.trans k13
  refine RW.nil ?_
  refine WPK.ret (?_)
  refine Fin.of (rs := [.cell 2 26]) hT [.agg #[.bool true, .slice A6 x10.length u6, .slice none 0 0, .slice none 0 0]] (.agg #[.bool true, .slice A6 x10.length u6, .slice none 0 0, .slice none 0 0]) [.cells ⟨b5, 0, none⟩ [.bool true, .slice A6 x10.length u6, .slice none 0 0, .slice none 0 0] 4] rfl (by kernel_rfl) (s.cells (i := 0) rfl rfl rfl) ?_
  refine hR3 _ _ ?_
  refine ⟨fun _ => ⟨_, s.pick [2] 4 rfl, kS1⟩, RD.fold ?_⟩
  obtain ⟨x11, hx7, hf⟩ := bindS hf
  refine RD.op (i := 23) rfl (by kernel_rfl) (by kernel_rfl) (OK.call' en21 (by kernel_rfl) (c21 (F := (.blk b5 (.cells #[.bool true, .slice A6 x10.length u6, .slice none 0 0, .slice none 0 0] 26 (0, 0))) :: (.blk b4 (.cells #[.slice A6 x10.length u6] 22 (0, 0))) :: (.blk b1 (.cells #[.bool p0.Leaf, .slice A1 p0.Pairs.length u1, .slice A2 p0.Keys.length u2, .slice A3 p0.Kids.length u3] 26 (0, 0))) :: (.sl (.slice A6 x10.length u6) 48 2 x10.length cl1) :: F) x5 A5 u5 hc5 e5 s hx7) ?_)
  intro X10 hX10
  refine fun _ _ hJ => hJ X10 ?_
  clear s
  intro I10 A7 u7 A8 n1 u8 cl2 A9 n2 u9 cl3 w19 s k14 hc6 e6 hn1 rp2 hn2 rp3
  refine hX10 _ _ ?_
  replace e5 := e5.st k14
  replace e1 := e1.st k14
  replace e2 := e2.st k14
  replace e3 := e3.st k14
  replace rp1 := rp1.st k14
  replace kk := kk.trans k14
  replace kS1 := kS1.trans k14
  rw [hn1] at s
  try rw [hn1]
  obtain ⟨I11, s', k15, hc7, e7⟩ := St.give s (i := 0) rfl rfl rp2
  replace s := s'; clear s'
  replace e5 := e5.st k15
  replace e6 := e6.st k15
  replace e1 := e1.st k15
  replace e2 := e2.st k15
  replace e3 := e3.st k15
  replace rp3 := rp3.st k15
  replace rp1 := rp1.st k15
  replace kk := kk.trans k15
  replace kS1 := kS1.trans k15
  rw [hn2] at s
  try rw [hn2]
  obtain ⟨I12, s', k16, hc8, e8⟩ := St.give s (i := 0) rfl rfl rp3
  replace s := s'; clear s'
  replace e5 := e5.st k16
  replace e6 := e6.st k16
  replace e7 := e7.st k16
  replace e1 := e1.st k16
  replace e2 := e2.st k16
  replace e3 := e3.st k16
  replace rp1 := rp1.st k16
  replace kk := kk.trans k16
  replace kS1 := kS1.trans k16
  refine ⟨fun _ => ⟨_, s.pick [2] 4 rfl, kS1⟩, RD.fold ?_⟩
  have sa1 := s
  obtain ⟨hc9, e9⟩ := St.lend s (i := 3) rfl rfl rp1
  have k17 := Kp.shut (I := I12) (w := w19) (p := .sl (.slice A6 x10.length u6) 48 2 x10.length cl1)
  replace s := s.shut 3 rfl
  obtain ⟨x12, hx8, hf⟩ := bindS hf
  refine RD.op (i := 24) rfl (by kernel_rfl) (by kernel_rfl) (OK.call' en20 (by kernel_rfl) (c20 (F := (.blk b5 (.cells #[.bool true, .slice A6 x10.length u6, .slice none 0 0, .slice none 0 0] 26 (0, 0))) :: (.blk b4 (.cells #[.slice A6 x10.length u6] 22 (0, 0))) :: (.blk b1 (.cells #[.bool p0.Leaf, .slice A1 p0.Pairs.length u1, .slice A2 p0.Keys.length u2, .slice A3 p0.Kids.length u3] 26 (0, 0))) :: F) (T_api_Node.mk true x10 [] []) x11 A6 u6 none 0 none 0 A7 u7 A8 u8 A9 u9 hc9 e9 nil_hc Elems.nil nil_hc Elems.nil hc6 (e6.st k17) hc7 (e7.st k17) hc8 (e8.st k17) s hx8) ?_)
  intro X11 hX11
  refine fun _ _ hJ => hJ X11 ?_
  clear s
  intro I13 w20 s k18
  refine hX11 _ _ ?_
  have s' := St.back sa1 (i := 3) rfl s k18
  replace k18 := Kp.back sa1 (i := 3) rfl k18
  replace s := s'; clear s'
  obtain ⟨I14, s, k18⟩ : ∃ I : Nat → Prop, St w1 M I ((.sl (.slice A6 x10.length u6) 48 2 x10.length cl1) :: (.blk b5 (.cells #[.bool true, .slice A6 x10.length u6, .slice none 0 0, .slice none 0 0] 26 (0, 0))) :: (.blk b4 (.cells #[.slice A6 x10.length u6] 22 (0, 0))) :: (.blk b1 (.cells #[.bool p0.Leaf, .slice A1 p0.Pairs.length u1, .slice A2 p0.Keys.length u2, .slice A3 p0.Kids.length u3] 26 (0, 0))) :: F) w20 ∧ Kp _ _ I _ := ⟨_, s, k18⟩
  replace e5 := e5.st k18
  replace e6 := e6.st k18
  replace e7 := e7.st k18
  replace e8 := e8.st k18
  replace e1 := e1.st k18
  replace e2 := e2.st k18
  replace e3 := e3.st k18
  replace rp1 := rp1.st k18
  replace kk := kk.trans k18
  replace kS1 := kS1.trans k18
  refine ⟨fun _ => ⟨_, s.pick [3] 4 rfl, kS1⟩, RD.fold ?_⟩
  refine RD.segM hT ht1 (by kernel_rfl) [25] [] [] [.bool x12] [] (by kernel_rfl) (fun _ _ => trivial) ⟨_, s.pick [3] 4 rfl, kS1⟩ ?_
  by_cases h5 : x12 = true
  have hf := iteT h5 hf
  obtain ⟨y1, hy1, hf⟩ := bindS hf
  obtain ⟨h6, hc10, e10, q1⟩ := slS0 hc5 e5 hy1
  refine RD.segM hT ht1 (by kernel_rfl) [26, 27, 29, 30, 33, 34, 35] [.agg #[.bool p0.Leaf, .slice A1 p0.Pairs.length u1, .slice A2 p0.Keys.length u2, .slice A3 p0.Kids.length u3], undef] [(78, .bool true), (87, .slice A5 y1.length u5)] [.bool true, .agg #[.bool p0.Leaf, .slice A1 p0.Pairs.length u1, .slice A2 p0.Keys.length u2, .slice A3 p0.Kids.length u3], .int .u8 p2, .int .i64 (IntKind.i64.wrap p2), .slice A5 x5.length u5, .int .i64 x6, .slice A5 y1.length u5] [.veq (.bool (x12)) (.bool true), .cells ⟨b1, 0, none⟩ [.bool p0.Leaf, .slice A1 p0.Pairs.length u1, .slice A2 p0.Keys.length u2, .slice A3 p0.Kids.length u3] 4, .both (.cut 0 x6 u5 u5) (.veq (.slice A5 x6.toNat u5) (.slice A5 y1.length u5))] (by kernel_rfl) (by rintro w' ⟨I', s, k⟩; have e4 := e4S1.st k; have e5 := e5S1.st k; have e1 := e1S1.st k; have e2 := e2S1.st k; have e3 := e3S1.st k; exact ⟨b_t h5, s.cells (i := 0) rfl rfl rfl, ⟨⟨by omega, by omega, by omega, by omega⟩, sl_eq rfl q1 rfl⟩⟩) ⟨_, s.pick [3] 4 rfl, kS1⟩ ?_
  refine RD.op (i := 28) rfl (by kernel_rfl) (by kernel_rfl) (OK.inl (args := [.agg #[.bool p0.Leaf, .slice A1 p0.Pairs.length u1, .slice A2 p0.Keys.length u2, .slice A3 p0.Kids.length u3]]) en23 (by kernel_rfl) ?_)
  intro R4 hR4
  refine Ret.of Try.func23 rfl ?_
  refine WPK.seq ?_
  refine WPK.region ?_
  refine RW.op (by kernel_rfl) (OK.new hT (f := fun b => .pointer (some ⟨b, 0, none⟩)) (cs := [.bool p0.Leaf, .slice A1 p0.Pairs.length u1, .slice A2 p0.Keys.length u2, .slice A3 p0.Kids.length u3]) (e := 26) (c := .tt) s (by kernel_rfl) trivial ?_)
  clear s
  rintro w21 b6 s k19 -
  replace e1 := e1.st k19
  replace e2 := e2.st k19
  replace e3 := e3.st k19
  replace e10 := e10.st k19
  replace rp1 := rp1.st k19
  replace kk := kk.trans k19
  replace kS1 := kS1.trans k19
  refine RW.seg hT 1 [] [] [.nilFunc] [] (by kernel_rfl) (trivial) ?_
  refine RW.nil ?_
  refine WPK.seq ?_
  refine WPK.region ?_
  refine RW.seg hT 2 [] [] [.func (.func 56) #[] #[.pointer (some ⟨b6, 0, none⟩)], .func (.func 56) #[] #[.pointer (some ⟨b6, 0, none⟩)]] [] (by kernel_rfl) (trivial) ?_
  refine RW.nil ?_
  refine WPK.ret (?_)
  refine Fin.of (rs := [.tmp 2]) hT [] (.func (.func 56) #[] #[.pointer (some ⟨b6, 0, none⟩)]) [] rfl (by kernel_rfl) (trivial) ?_
  refine hR4 _ _ ?_
  refine ⟨fun _ => ⟨_, s.pick [4] 5 rfl, kS1⟩, RD.fold ?_⟩
  refine RD.op (i := 31) rfl (by kernel_rfl) (by kernel_rfl) (OK.inl (args := [.func (.func 56) #[] #[.pointer (some ⟨b6, 0, none⟩)], .int .i64 (IntKind.i64.wrap p2)]) en22 (by kernel_rfl) ?_)
  intro R5 hR5
  refine Ret.of Try.func22 rfl ?_
  refine WPK.seq ?_
  refine WPK.region ?_
  refine RW.op (by kernel_rfl) (OK.new hT (f := fun b => .pointer (some ⟨b, 0, none⟩)) (cs := [.int .i64 (IntKind.i64.wrap p2)]) (e := 3) (c := .tt) s (by kernel_rfl) trivial ?_)
  clear s
  rintro w22 b7 s k20 -
  replace e10 := e10.st k20
  replace e1 := e1.st k20
  replace e2 := e2.st k20
  replace e3 := e3.st k20
  replace rp1 := rp1.st k20
  replace kk := kk.trans k20
  replace kS1 := kS1.trans k20
  refine RW.seg hT 1 [] [] [.slice none 0 0] [] (by kernel_rfl) (trivial) ?_
  refine RW.nil ?_
  refine WPK.seq ?_
  refine WPK.region ?_
  refine RW.op (by kernel_rfl) (OK.new hT (f := fun b => .pointer (some ⟨b, 0, none⟩)) (cs := [.slice none 0 0]) (e := 22) (c := .tt) s (by kernel_rfl) trivial ?_)
  clear s
  rintro w23 b8 s k21 -
  replace e10 := e10.st k21
  replace e1 := e1.st k21
  replace e2 := e2.st k21
  replace e3 := e3.st k21
  replace rp1 := rp1.st k21
  replace kk := kk.trans k21
  replace kS1 := kS1.trans k21
  refine RW.nil ?_
  refine WPK.seq ?_
  refine WPK.seq ?_
  refine WPK.region ?_
  refine RW.seg hT 2 [] [] [.func (.func 56) #[] #[.pointer (some ⟨b6, 0, none⟩)], .bool false] [] (by kernel_rfl) (trivial) ?_
  refine RW.nil ?_
  refine WPK.condF (by kernel_rfl) ?_
  refine WPK.skip ?_
  refine WPK.seq ?_
  refine WPK.cut' (Kn fun D5 ds wz => ∀ X : Kont, (∀ (I15 : Nat → Prop) (x13 : (List T_api_Pair)) (d2 : Nat) (A10 : Option Addr) (u10 : Nat) (cl4 : List Value) (w' : World), g4_j5 y1 x13 = some r → St w1 M I15 ((.blk b8 (.cells #[.slice A10 x13.length u10] 22 (0, 0))) :: (.blk b1 (.cells #[.bool p0.Leaf, .slice A1 p0.Pairs.length u1, .slice A2 p0.Keys.length u2, .slice A3 p0.Kids.length u3] 26 (0, 0))) :: (.blk d2 (.deferred (some []))) :: (.sl (.slice A10 x13.length u10) 48 2 x13.length cl4) :: F) w' → Kp I w I15 w' → Kp I5 w7 I15 w' → RepL rp_T_api_Pair I15 w' cl4 x13 → Elems rp_T_api_Pair I15 w' A1 p0.Pairs → Elems (Rp.slice (Rp.int .u8)) I15 w' A2 p0.Keys → Elems (Rp.int .i64) I15 w' A3 p0.Kids → Elems rp_T_api_Pair I15 w' A5 y1 → X [(D5.getD 0 undef), (D5.getD 1 undef), (D5.getD 2 undef), (D5.getD 3 undef), .slice none 0 0, .pointer (some ⟨b8, 0, none⟩), (D5.getD 6 undef), (D5.getD 7 undef), (D5.getD 8 undef), (D5.getD 9 undef), (D5.getD 10 undef), (D5.getD 11 undef), (D5.getD 12 undef), (D5.getD 13 undef), (D5.getD 14 undef), (D5.getD 15 undef), (D5.getD 16 undef), (D5.getD 17 undef), (D5.getD 18 undef), (D5.getD 19 undef), (D5.getD 20 undef), (D5.getD 21 undef), (D5.getD 22 undef), undef] [mk d2] w') → X D5 ds wz) ?_ ?_
  intro X12 hX12
  refine fun D5 _ _ hJ => hJ X12 ?_
  clear s
  intro I15 x13 d2 A10 u10 cl4 w24 hf s kk kS1 rp4 e1 e2 e3 e10
  refine hX12 _ _ _ ?_
  unfold g4_j5 at hf
  refine WPK.seq ?_
  refine WPK.region ?_
  refine RW.seg hT 2 [.slice A10 x13.length u10] [] [.slice A10 x13.length u10, .slice A10 x13.length u10] [.cell ⟨b8, 0, none⟩ (.slice A10 x13.length u10)] (by kernel_rfl) (s.cell (i := 0) (off := 0) rfl rfl) ?_
  refine RW.nil ?_
  refine WPK.ret (?_)
  refine Fin.mark (i := 2) s rfl ?_
  clear s
  intro w25 s k22
  replace e10 := e10.st k22
  replace e1 := e1.st k22
  replace e2 := e2.st k22
  replace e3 := e3.st k22
  replace rp4 := rp4.st k22
  replace kk := kk.trans k22
  replace kS1 := kS1.trans k22
  refine Fin.of (rs := [.tmp 4]) hT [] (.slice A10 x13.length u10) [] rfl (by kernel_rfl) (trivial) ?_
  refine hR5 _ _ ?_
  refine ⟨fun _ => ⟨_, s.pick [1] 3 rfl, kS1⟩, RD.fold ?_⟩
  refine RD.op (i := 32) rfl (by kernel_rfl) (by kernel_rfl) (OK.inl (args := [.slice A10 x13.length u10]) en21 (by kernel_rfl) ?_)
  intro R6 hR6
  refine Ret.of Try.func21 rfl ?_
  refine WPK.seq ?_
  refine WPK.region ?_
  refine RW.op (by kernel_rfl) (OK.new hT (f := fun b => .pointer (some ⟨b, 0, none⟩)) (cs := [.bool false, .slice none 0 0, .slice none 0 0, .slice none 0 0]) (e := 26) (c := .tt) s (by kernel_rfl) trivial ?_)
  clear s
  rintro w26 b9 s k23 -
  replace e10 := e10.st k23
  replace e1 := e1.st k23
  replace e2 := e2.st k23
  replace e3 := e3.st k23
  replace rp4 := rp4.st k23
  replace kk := kk.trans k23
  replace kS1 := kS1.trans k23
  refine RW.nil ?_
  refine WPK.seq ?_
  refine WPK.region ?_
  refine RW.seg hT 2 [] [] [.slice A10 x13.length u10, .agg #[.bool true, .slice A10 x13.length u10, .slice none 0 0, .slice none 0 0]] [] (by kernel_rfl) (trivial) ?_
  refine RW.op (by kernel_rfl) (OK.store hT (i := 0) (b := b9) (off := 0) (n := 4) (vs := [.bool true, .slice A10 x13.length u10, .slice none 0 0, .slice none 0 0]) (cs := [.bool false, .slice none 0 0, .slice none 0 0, .slice none 0 0]) (e := 26) s (by kernel_rfl) rfl rfl (flat_ok rfl) (Nat.le_of_ble_eq_true rfl) ?_)
  clear s
  rintro w27 s k24 -
  replace e10 := e10.st k24
  replace e1 := e1.st k24
  replace e2 := e2.st k24
  replace e3 := e3.st k24
  replace rp4 := rp4.st k24
  replace kk := kk.trans k24
  replace kS1 := kS1.trans k24
  refine RW.nil ?_
  refine WPK.ret (?_)
  refine Fin.of (rs := [.cell 2 26]) hT [.agg #[.bool true, .slice A10 x13.length u10, .slice none 0 0, .slice none 0 0]] (.agg #[.bool true, .slice A10 x13.length u10, .slice none 0 0, .slice none 0 0]) [.cells ⟨b9, 0, none⟩ [.bool true, .slice A10 x13.length u10, .slice none 0 0, .slice none 0 0] 4] rfl (by kernel_rfl) (s.cells (i := 0) rfl rfl rfl) ?_
  refine hR6 _ _ ?_
  refine ⟨fun _ => ⟨_, s.pick [2] 4 rfl, kS1⟩, RD.fold ?_⟩
  obtain ⟨x14, hx9, hf⟩ := bindS hf
  refine RD.op (i := 36) rfl (by kernel_rfl) (by kernel_rfl) (OK.call' en21 (by kernel_rfl) (c21 (F := (.blk b9 (.cells #[.bool true, .slice A10 x13.length u10, .slice none 0 0, .slice none 0 0] 26 (0, 0))) :: (.blk b8 (.cells #[.slice A10 x13.length u10] 22 (0, 0))) :: (.blk b1 (.cells #[.bool p0.Leaf, .slice A1 p0.Pairs.length u1, .slice A2 p0.Keys.length u2, .slice A3 p0.Kids.length u3] 26 (0, 0))) :: (.sl (.slice A10 x13.length u10) 48 2 x13.length cl4) :: F) y1 A5 u5 hc10 e10 s hx9) ?_)
  intro X13 hX13
  refine fun _ _ hJ => hJ X13 ?_
  clear s
  intro I16 A11 u11 A12 n3 u12 cl5 A13 n4 u13 cl6 w28 s k25 hc11 e11 hn3 rp5 hn4 rp6
  refine hX13 _ _ ?_
  replace e10 := e10.st k25
  replace e1 := e1.st k25
  replace e2 := e2.st k25
  replace e3 := e3.st k25
  replace rp4 := rp4.st k25
  replace kk := kk.trans k25
  replace kS1 := kS1.trans k25
  rw [hn3] at s
  try rw [hn3]
  obtain ⟨I17, s', k26, hc12, e12⟩ := St.give s (i := 0) rfl rfl rp5
  replace s := s'; clear s'
  replace e10 := e10.st k26
  replace e11 := e11.st k26
  replace e1 := e1.st k26
  replace e2 := e2.st k26
  replace e3 := e3.st k26
  replace rp6 := rp6.st k26
  replace rp4 := rp4.st k26
  replace kk := kk.trans k26
  replace kS1 := kS1.trans k26
  rw [hn4] at s
  try rw [hn4]
  obtain ⟨I18, s', k27, hc13, e13⟩ := St.give s (i := 0) rfl rfl rp6
  replace s := s'; clear s'
  replace e10 := e10.st k27
  replace e11 := e11.st k27
  replace e12 := e12.st k27
  replace e1 := e1.st k27
  replace e2 := e2.st k27
  replace e3 := e3.st k27
  replace rp4 := rp4.st k27
  replace kk := kk.trans k27
  replace kS1 := kS1.trans k27
  refine ⟨fun _ => ⟨_, s.pick [2] 4 rfl, kS1⟩, RD.fold ?_⟩
  have sa2 := s
  obtain ⟨hc14, e14⟩ := St.lend s (i := 3) rfl rfl rp4
  have k28 := Kp.shut (I := I18) (w := w28) (p := .sl (.slice A10 x13.length u10) 48 2 x13.length cl4)
  replace s := s.shut 3 rfl
  obtain ⟨x15, hx10, hf⟩ := bindS hf
  refine RD.op (i := 37) rfl (by kernel_rfl) (by kernel_rfl) (OK.call' en20 (by kernel_rfl) (c20 (F := (.blk b9 (.cells #[.bool true, .slice A10 x13.length u10, .slice none 0 0, .slice none 0 0] 26 (0, 0))) :: (.blk b8 (.cells #[.slice A10 x13.length u10] 22 (0, 0))) :: (.blk b1 (.cells #[.bool p0.Leaf, .slice A1 p0.Pairs.length u1, .slice A2 p0.Keys.length u2, .slice A3 p0.Kids.length u3] 26 (0, 0))) :: F) (T_api_Node.mk true x13 [] []) x14 A10 u10 none 0 none 0 A11 u11 A12 u12 A13 u13 hc14 e14 nil_hc Elems.nil nil_hc Elems.nil hc11 (e11.st k28) hc12 (e12.st k28) hc13 (e13.st k28) s hx10) ?_)
  intro X14 hX14
  refine fun _ _ hJ => hJ X14 ?_
  clear s
  intro I19 w29 s k29
  refine hX14 _ _ ?_
  have s' := St.back sa2 (i := 3) rfl s k29
  replace k29 := Kp.back sa2 (i := 3) rfl k29
  replace s := s'; clear s'
  obtain ⟨I20, s, k29⟩ : ∃ I : Nat → Prop, St w1 M I ((.sl (.slice A10 x13.length u10) 48 2 x13.length cl4) :: (.blk b9 (.cells #[.bool true, .slice A10 x13.length u10, .slice none 0 0, .slice none 0 0] 26 (0, 0))) :: (.blk b8 (.cells #[.slice A10 x13.length u10] 22 (0, 0))) :: (.blk b1 (.cells #[.bool p0.Leaf, .slice A1 p0.Pairs.length u1, .slice A2 p0.Keys.length u2, .slice A3 p0.Kids.length u3] 26 (0, 0))) :: F) w29 ∧ Kp _ _ I _ := ⟨_, s, k29⟩
  replace e10 := e10.st k29
  replace e11 := e11.st k29
  replace e12 := e12.st k29
  replace e13 := e13.st k29
  replace e1 := e1.st k29
  replace e2 := e2.st k29
  replace e3 := e3.st k29
  replace rp4 := rp4.st k29
  replace kk := kk.trans k29
  replace kS1 := kS1.trans k29
  refine ⟨fun _ => ⟨_, s.pick [3] 4 rfl, kS1⟩, RD.fold ?_⟩
  refine RD.segM hT ht1 (by kernel_rfl) [38, 39] [] [] [.bool x15, .bool x15] [] (by kernel_rfl) (fun _ _ => trivial) ⟨_, s.pick [3] 4 rfl, kS1⟩ ?_
  refine RD.done (by kernel_rfl) ?_
  replace s := s.pick [] 4 rfl
  exact fun X h => kc (by kernel_rfl) rfl (h I20 x15 _ hf s kk)
  refine WPK.seq ?_
  refine WPK.region ?_
  refine RW.seg hT 1 [] [] [.func (.func 56) #[] #[.pointer (some ⟨b6, 0, none⟩)]] [] (by kernel_rfl) (trivial) ?_
  refine RW.nil ?_
  refine WPK.block ?_
  refine WPK.range (gf := 56) (first := []) (cap := [.pointer (some ⟨b6, 0, none⟩)]) s (by kernel_rfl) en56 ?_
  clear s
  intro l1 d3 rec1 w30 R7 hrec1 s k30 hR7
  replace e10 := e10.st k30
  replace e1 := e1.st k30
  replace e2 := e2.st k30
  replace e3 := e3.st k30
  replace rp1 := rp1.st k30
  replace kk := kk.trans k30
  replace kS1 := kS1.trans k30
  refine Ret.of Try.func56 rfl ?_
  refine WPK.seq ?_
  refine WPK.seq ?_
  refine WPK.region ?_
  refine RW.seg hT 1 [.agg #[.bool p0.Leaf, .slice A1 p0.Pairs.length u1, .slice A2 p0.Keys.length u2, .slice A3 p0.Kids.length u3]] [] [.agg #[.bool p0.Leaf, .slice A1 p0.Pairs.length u1, .slice A2 p0.Keys.length u2, .slice A3 p0.Kids.length u3]] [.cells ⟨b6, 0, none⟩ [.bool p0.Leaf, .slice A1 p0.Pairs.length u1, .slice A2 p0.Keys.length u2, .slice A3 p0.Kids.length u3] 4] (by kernel_rfl) (s.cells (i := 4) rfl rfl rfl) ?_
  obtain ⟨x16, hx11, hf⟩ := bindS hf
  refine RW.op (by kernel_rfl) (OK.call' en50 (by kernel_rfl) (c50 (F := (.blk l1 (rec1 .ready none)) :: (.blk d3 (.deferred (some []))) :: (.blk b8 (.cells #[.slice none 0 0] 22 (0, 0))) :: (.blk b7 (.cells #[.int .i64 (IntKind.i64.wrap p2)] 3 (0, 0))) :: (.blk b6 (.cells #[.bool p0.Leaf, .slice A1 p0.Pairs.length u1, .slice A2 p0.Keys.length u2, .slice A3 p0.Kids.length u3] 26 (0, 0))) :: (.sl (.slice A6 x10.length u6) 48 2 x10.length cl1) :: (.blk b5 (.cells #[.bool true, .slice A6 x10.length u6, .slice none 0 0, .slice none 0 0] 26 (0, 0))) :: (.blk b4 (.cells #[.slice A6 x10.length u6] 22 (0, 0))) :: (.blk b1 (.cells #[.bool p0.Leaf, .slice A1 p0.Pairs.length u1, .slice A2 p0.Keys.length u2, .slice A3 p0.Kids.length u3] 26 (0, 0))) :: F) p0 A1 u1 A2 u2 A3 u3 hc1 e1 hc2 e2 hc3 e3 s hx11) ?_)
  intro X15 hX15
  refine fun _ _ hJ => hJ X15 ?_
  clear s
  intro I21 w31 s k31
  refine hX15 _ _ ?_
  replace e1 := e1.st k31
  replace e2 := e2.st k31
  replace e3 := e3.st k31
  replace e10 := e10.st k31
  replace rp1 := rp1.st k31
  replace kk := kk.trans k31
  replace kS1 := kS1.trans k31
  refine RW.seg hT 1 [] [(8, .bool (decide (¬ (x16 = true))))] [.bool (decide (¬ (x16 = true)))] [.veq (.bool (!x16)) (.bool (decide (¬ (x16 = true))))] (by kernel_rfl) (not_b) ?_
  refine RW.nil ?_
  by_cases h7 : ¬ (x16 = true)
  have hf := iteT h7 hf
  refine WPK.condT (Eq.trans (b := .bool (decide (¬ (x16 = true)))) (by kernel_rfl) (bo_t h7)) ?_
  refine WPK.ret (?_)
  refine Fin.of (rs := []) hT [] (.tuple #[]) [] rfl (by kernel_rfl) (trivial) ?_
  refine hR7 _ _ (RangeEnd.done hrec1 s (i := 0) rfl ?_)
  clear s
  intro w32 s k32
  replace e10 := e10.st k32
  replace e1 := e1.st k32
  replace e2 := e2.st k32
  replace e3 := e3.st k32
  replace rp1 := rp1.st k32
  replace kk := kk.trans k32
  replace kS1 := kS1.trans k32
  replace s := s.pushNil 48 2
  replace s := s.pick [2, 8, 1, 0] 9 rfl
  exact fun X h => kc (by kernel_rfl) rfl (h I21 ([] : List T_api_Pair) d3 none 0 [] _ hf s kk kS1 (RepL.nil (r := rp_T_api_Pair)) e1 e2 e3 e10)
  have hf := iteF h7 hf
  refine WPK.condF (Eq.trans (b := .bool (decide (¬ (x16 = true)))) (by kernel_rfl) (bo_f h7)) ?_
  refine WPK.skip ?_
  refine WPK.seq ?_
  refine WPK.region ?_
  refine RW.seg hT 4 [.slice A1 p0.Pairs.length u1] [] [.pointer (some ⟨b6, 1, none⟩), .slice A1 p0.Pairs.length u1, .int .i64 (p0.Pairs.length : Int), .int .i64 0] [.cell ⟨b6, 1, none⟩ (.slice A1 p0.Pairs.length u1)] (by kernel_rfl) (s.cell (i := 4) (off := 1) rfl rfl) ?_
  refine RW.nil ?_
  refine WPK.block ?_
  replace s := s.pushNil 48 2
  replace s := s.pick [1, 2, 3, 4, 9, 0] 10 rfl
  refine WPK.loop' (J := fun n5 D6 ds wz => ∀ X : Kont, (∀ (I22 : Nat → Prop) (x17 : Int) (x18 : (List T_api_Pair)) (A14 : Option Addr) (u14 : Nat) (cl7 : List Value) (w' : World), g4_l6 p0 p2 y1 n5 x17 x18 = some r → St w1 M I22 ((.blk l1 (rec1 .ready none)) :: (.blk d3 (.deferred (some []))) :: (.blk b8 (.cells #[.slice A14 x18.length u14] 22 (0, 0))) :: (.blk b7 (.cells #[.int .i64 (IntKind.i64.wrap p2)] 3 (0, 0))) :: (.blk b1 (.cells #[.bool p0.Leaf, .slice A1 p0.Pairs.length u1, .slice A2 p0.Keys.length u2, .slice A3 p0.Kids.length u3] 26 (0, 0))) :: (.sl (.slice A14 x18.length u14) 48 2 x18.length cl7) :: F) w' → Kp I w I22 w' → Kp I5 w7 I22 w' → Elems rp_T_api_Pair I22 w' A1 p0.Pairs → RepL rp_T_api_Pair I22 w' cl7 x18 → Elems (Rp.slice (Rp.int .u8)) I22 w' A2 p0.Keys → Elems (Rp.int .i64) I22 w' A3 p0.Kids → Elems rp_T_api_Pair I22 w' A5 y1 → X [.func (.yield l1) #[] #[], (D6.getD 1 undef), (D6.getD 2 undef), (D6.getD 3 undef), (D6.getD 4 undef), (D6.getD 5 undef), (D6.getD 6 undef), (D6.getD 7 undef), (D6.getD 8 undef), (D6.getD 9 undef), .slice A1 p0.Pairs.length u1, .int .i64 (p0.Pairs.length : Int), .int .i64 x17, (D6.getD 13 undef), (D6.getD 14 undef), (D6.getD 15 undef), (D6.getD 16 undef), (D6.getD 17 undef), (D6.getD 18 undef), (D6.getD 19 undef), (D6.getD 20 undef), (D6.getD 21 undef), (D6.getD 22 undef), (D6.getD 23 undef), (D6.getD 24 undef), (D6.getD 25 undef)] [] w') → X D6 ds wz) FUEL (fun X h => kc (by kernel_rfl) rfl (h I21 0 ([] : List T_api_Pair) none 0 [] _ hf s kk kS1 e1 (RepL.nil (r := rp_T_api_Pair)) e2 e3 e10)) (fun _ _ _ hJ => hJ (fun _ _ _ => False) (by intro I22 x17 x18 A14 u14 cl7 w33 hf s kk kS1 e1 rp7 e2 e3 e10; exact noneS hf)) ?_
  intro X16 hX16
  refine fun n5 D6 _ _ hJ => hJ (X16 n5) ?_
  clear s
  intro I22 x17 x18 A14 u14 cl7 w33 hf s kk kS1 e1 rp7 e2 e3 e10
  refine hX16 _ _ _ _ ?_
  replace hf : g4_l6B p0 p2 y1 (g4_l6 p0 p2 y1 n5) x17 x18 = some r := hf
  generalize hrec2 : g4_l6 p0 p2 y1 n5 = rec2 at hf
  unfold g4_l6B at hf
  refine WPK.seq ?_
  refine WPK.region ?_
  refine RW.seg hT 1 [] [] [.bool (decide (x17 < (p0.Pairs.length : Int)))] [] (by kernel_rfl) (trivial) ?_
  refine RW.nil ?_
  refine WPK.seq ?_
  by_cases h8 : x17 < (p0.Pairs.length : Int)
  have hf := iteT h8 hf
  refine WPK.condT (Eq.trans (b := .bool (decide (x17 < (p0.Pairs.length : Int)))) (by kernel_rfl) (bo_t h8)) ?_
  refine WPK.skip ?_
  refine WPK.seq ?_
  refine WPK.block ?_
  refine WPK.seq ?_
  refine WPK.region ?_
  obtain ⟨x19, hx12, hf⟩ := bindS hf
  obtain ⟨h9, hx12⟩ := getS hx12
  obtain ⟨b10, o1, rfl⟩ := Elems.opn e1 hx12
  obtain ⟨cs1, hr1, ha1⟩ := Elems.get e1 hx12
  obtain ⟨cs2, cs3, rfl, hr2, hr3⟩ := hr1
  obtain ⟨A15, u15, rfl, q2, q3, e15⟩ := hr2
  have hc15 := And.intro q2 q3
  obtain ⟨A16, u16, rfl, q4, q5, e16⟩ := hr3
  have hc16 := And.intro q4 q5
  refine RW.seg hT 2 [.agg #[.slice A15 x19.Key.length u15, .slice A16 x19.Val.length u16]] [] [.pointer (some ⟨b10, o1 + x17.toNat * 2, none⟩), .agg #[.slice A15 x19.Key.length u15, .slice A16 x19.Val.length u16]] [.idx x17 p0.Pairs.length, .cells ⟨b10, o1 + x17.toNat * 2, none⟩ [.slice A15 x19.Key.length u15, .slice A16 x19.Val.length u16] 2] (by kernel_rfl) (⟨h9, at_cells ha1 (off := 0) rfl rfl⟩) ?_
  refine RW.op (by kernel_rfl) (OK.new hT (f := fun b => .pointer (some ⟨b, 0, none⟩)) (cs := [.slice none 0 0, .slice none 0 0]) (e := 48) (c := .tt) s (by kernel_rfl) trivial ?_)
  clear s
  rintro w34 b11 s k33 -
  replace e1 := e1.st k33
  replace e15 := e15.st k33
  replace e16 := e16.st k33
  replace e10 := e10.st k33
  replace e2 := e2.st k33
  replace e3 := e3.st k33
  replace rp7 := rp7.st k33
  replace kk := kk.trans k33
  replace kS1 := kS1.trans k33
  refine RW.op (by kernel_rfl) (OK.store hT (i := 0) (b := b11) (off := 0) (n := 2) (vs := [.slice A15 x19.Key.length u15, .slice A16 x19.Val.length u16]) (cs := [.slice none 0 0, .slice none 0 0]) (e := 48) s (by kernel_rfl) rfl rfl (flat_ok rfl) (Nat.le_of_ble_eq_true rfl) ?_)
  clear s
  rintro w35 s k34 -
  replace e1 := e1.st k34
  replace e15 := e15.st k34
  replace e16 := e16.st k34
  replace e10 := e10.st k34
  replace e2 := e2.st k34
  replace e3 := e3.st k34
  replace rp7 := rp7.st k34
  replace kk := kk.trans k34
  replace kS1 := kS1.trans k34
  refine RW.nil ?_
  refine WPK.seq ?_
  refine WPK.region ?_
  refine RW.seg hT 1 [.agg #[.slice A15 x19.Key.length u15, .slice A16 x19.Val.length u16]] [] [.agg #[.slice A15 x19.Key.length u15, .slice A16 x19.Val.length u16]] [.cells ⟨b11, 0, none⟩ [.slice A15 x19.Key.length u15, .slice A16 x19.Val.length u16] 2] (by kernel_rfl) (s.cells (i := 0) rfl rfl rfl) ?_
  obtain ⟨x20, hx13, hf⟩ := bindS hf
  refine RW.op (by kernel_rfl) (OK.call' en57 (by kernel_rfl) (c57 (F := (.blk b11 (.cells #[.slice A15 x19.Key.length u15, .slice A16 x19.Val.length u16] 48 (0, 0))) :: (.blk l1 (rec1 .ready none)) :: (.blk d3 (.deferred (some []))) :: (.blk b8 (.cells #[.slice A14 x18.length u14] 22 (0, 0))) :: (.blk b7 (.cells #[.int .i64 (IntKind.i64.wrap p2)] 3 (0, 0))) :: (.blk b1 (.cells #[.bool p0.Leaf, .slice (some ⟨b10, o1, none⟩) p0.Pairs.length u1, .slice A2 p0.Keys.length u2, .slice A3 p0.Kids.length u3] 26 (0, 0))) :: (.sl (.slice A14 x18.length u14) 48 2 x18.length cl7) :: F) x19 A15 u15 A16 u16 hc15 e15 hc16 e16 s hx13) ?_)
  intro X17 hX17
  refine fun _ _ hJ => hJ X17 ?_
  clear s
  intro I23 A17 n6 u17 cl8 A18 n7 u18 cl9 w36 s k35 hn5 rp8 hn6 rp9
  refine hX17 _ _ ?_
  replace e1 := e1.st k35
  replace e15 := e15.st k35
  replace e16 := e16.st k35
  replace e10 := e10.st k35
  replace e2 := e2.st k35
  replace e3 := e3.st k35
  replace rp7 := rp7.st k35
  replace kk := kk.trans k35
  replace kS1 := kS1.trans k35
  rw [hn5] at s
  try rw [hn5]
  obtain ⟨I24, s', k36, hc17, e17⟩ := St.give s (i := 0) rfl rfl rp8
  replace s := s'; clear s'
  replace e1 := e1.st k36
  replace e15 := e15.st k36
  replace e16 := e16.st k36
  replace e10 := e10.st k36
  replace e2 := e2.st k36
  replace e3 := e3.st k36
  replace rp9 := rp9.st k36
  replace rp7 := rp7.st k36
  replace kk := kk.trans k36
  replace kS1 := kS1.trans k36
  rw [hn6] at s
  try rw [hn6]
  obtain ⟨I25, s', k37, hc18, e18⟩ := St.give s (i := 0) rfl rfl rp9
  replace s := s'; clear s'
  replace e1 := e1.st k37
  replace e15 := e15.st k37
  replace e16 := e16.st k37
  replace e17 := e17.st k37
  replace e10 := e10.st k37
  replace e2 := e2.st k37
  replace e3 := e3.st k37
  replace rp7 := rp7.st k37
  replace kk := kk.trans k37
  replace kS1 := kS1.trans k37
  refine RW.op (by kernel_rfl) (OK.new hT (f := fun b => .pointer (some ⟨b, 0, none⟩)) (cs := [.slice none 0 0, .slice none 0 0]) (e := 48) (c := .tt) s (by kernel_rfl) trivial ?_)
  clear s
  rintro w37 b12 s k38 -
  replace e1 := e1.st k38
  replace e15 := e15.st k38
  replace e16 := e16.st k38
  replace e17 := e17.st k38
  replace e18 := e18.st k38
  replace e10 := e10.st k38
  replace e2 := e2.st k38
  replace e3 := e3.st k38
  replace rp7 := rp7.st k38
  replace kk := kk.trans k38
  replace kS1 := kS1.trans k38
  refine RW.op (by kernel_rfl) (OK.store hT (i := 0) (b := b12) (off := 0) (n := 2) (vs := [.slice A17 x20.Key.length u17, .slice A18 x20.Val.length u18]) (cs := [.slice none 0 0, .slice none 0 0]) (e := 48) s (by kernel_rfl) rfl rfl (flat_ok rfl) (Nat.le_of_ble_eq_true rfl) ?_)
  clear s
  rintro w38 s k39 -
  replace e1 := e1.st k39
  replace e15 := e15.st k39
  replace e16 := e16.st k39
  replace e17 := e17.st k39
  replace e18 := e18.st k39
  replace e10 := e10.st k39
  replace e2 := e2.st k39
  replace e3 := e3.st k39
  replace rp7 := rp7.st k39
  replace kk := kk.trans k39
  replace kS1 := kS1.trans k39
  refine RW.nil ?_
  refine WPK.seq ?_
  refine WPK.region ?_
  refine RW.seg hT 5 [.slice A17 x20.Key.length u17, .slice A18 x20.Val.length u18] [] [.func (.yield l1) #[] #[], .pointer (some ⟨b12, 0, none⟩), .slice A17 x20.Key.length u17, .pointer (some ⟨b12, 1, none⟩), .slice A18 x20.Val.length u18] [.cell ⟨b12, 0, none⟩ (.slice A17 x20.Key.length u17), .cell ⟨b12, 1, none⟩ (.slice A18 x20.Val.length u18)] (by kernel_rfl) (⟨s.cell (i := 0) (off := 0) rfl rfl, s.cell (i := 0) (off := 1) rfl rfl⟩) ?_
  refine RW.op (by kernel_rfl) (OK.yield (args := [.slice A17 x20.Key.length u17, .slice A18 x20.Val.length u18]) hrec1 s (i := 2) rfl (by kernel_rfl) rfl ?_)
  intro R8 hR8
  refine WPK.seq ?_
  refine WPK.region ?_
  refine RW.seg hT 1 [] [] [.slice A17 x20.Key.length u17] [] (by kernel_rfl) (trivial) ?_
  refine RW.nil ?_
  refine WPK.region ?_
  refine RW.seg hT 1 [] [] [.slice A18 x20.Val.length u18] [] (by kernel_rfl) (trivial) ?_
  refine RW.nil ?_
  refine RoundBeg.of hrec1 s (i := 2) rfl ?_
  clear s
  intro w39 s k40
  replace e17 := e17.st k40
  replace e18 := e18.st k40
  replace e10 := e10.st k40
  replace e1 := e1.st k40
  replace e15 := e15.st k40
  replace e16 := e16.st k40
  replace e2 := e2.st k40
  replace e3 := e3.st k40
  replace rp7 := rp7.st k40
  replace kk := kk.trans k40
  replace kS1 := kS1.trans k40
  refine WPK.block ?_
  refine WPK.seq ?_
  refine WPK.seq ?_
  refine WPK.region ?_
  refine RW.seg hT 4 [.slice A14 x18.length u14, .int .i64 (IntKind.i64.wrap p2)] [(14, .int .i64 (x18.length : Int))] [.slice A14 x18.length u14, .int .i64 (x18.length : Int), .int .i64 (IntKind.i64.wrap p2), .bool (decide ((x18.length : Int) ≥ (IntKind.i64.wrap p2)))] [.cell ⟨b8, 0, none⟩ (.slice A14 x18.length u14), .veq (.int .i64 (x18.length : Nat)) (.int .i64 (x18.length : Int)), .cell ⟨b7, 0, none⟩ (.int .i64 (IntKind.i64.wrap p2))] (by kernel_rfl) (⟨s.cell (i := 4) (off := 0) rfl rfl, len_v rfl, s.cell (i := 5) (off := 0) rfl rfl⟩) ?_
  refine RW.nil ?_
  by_cases h10 : (x18.length : Int) ≥ (IntKind.i64.wrap p2)
  have hf := iteT h10 hf
  refine WPK.condT (Eq.trans (b := .bool (decide ((x18.length : Int) ≥ (IntKind.i64.wrap p2)))) (by kernel_rfl) (bo_t h10)) ?_
  refine WPK.exit (blockQ.other rfl (?_))
  refine RoundEnd.stop (Code.exit 0) hrec1 s (i := 2) rfl ?_
  clear s
  intro w40 s k41
  replace e17 := e17.st k41
  replace e18 := e18.st k41
  replace e10 := e10.st k41
  replace e1 := e1.st k41
  replace e15 := e15.st k41
  replace e16 := e16.st k41
  replace e2 := e2.st k41
  replace e3 := e3.st k41
  replace rp7 := rp7.st k41
  replace kk := kk.trans k41
  replace kS1 := kS1.trans k41
  refine hR8 _ _ ?_
  refine RW.seg hT 1 [] [] [.bool true] [] (by kernel_rfl) (trivial) ?_
  refine RW.nil ?_
  refine WPK.condT (by kernel_rfl) ?_
  refine WPK.ret (blockQ.ret (blockQ.ret (?_)))
  refine Fin.of (rs := []) hT [] (.tuple #[]) [] rfl (by kernel_rfl) (trivial) ?_
  refine hR7 _ _ (RangeEnd.jump hrec1 s (i := 2) rfl ?_)
  clear s
  intro w41 s k42
  replace e10 := e10.st k42
  replace e17 := e17.st k42
  replace e18 := e18.st k42
  replace e15 := e15.st k42
  replace e16 := e16.st k42
  replace e1 := e1.st k42
  replace e2 := e2.st k42
  replace e3 := e3.st k42
  replace rp7 := rp7.st k42
  replace kk := kk.trans k42
  replace kS1 := kS1.trans k42
  refine WPK.exit (blockQ.same ?_)
  replace s := s.pick [3, 5, 2, 6] 7 rfl
  exact fun X h => kc (by kernel_rfl) rfl (h I25 x18 d3 A14 u14 cl7 _ hf s kk kS1 rp7 e1 e2 e3 e10)
  have hf := iteF h10 hf
  refine WPK.condF (Eq.trans (b := .bool (decide ((x18.length : Int) ≥ (IntKind.i64.wrap p2)))) (by kernel_rfl) (bo_f h10)) ?_
  refine WPK.skip ?_
  refine WPK.region ?_
  refine RW.seg hT 4 [.slice A14 x18.length u14] [] [.slice A14 x18.length u14, .slice A17 x20.Key.length u17, .slice A18 x20.Val.length u18, .agg #[.slice A17 x20.Key.length u17, .slice A18 x20.Val.length u18]] [.cell ⟨b8, 0, none⟩ (.slice A14 x18.length u14)] (by kernel_rfl) (s.cell (i := 4) (off := 0) rfl rfl) ?_
  refine RW.op (by kernel_rfl) (OK.new hT (f := fun b => .slice (some ⟨b, 0, none⟩) 1 1) (cs := [.slice A17 x20.Key.length u17, .slice A18 x20.Val.length u18]) (e := 48) (c := .tt) s (by kernel_rfl) trivial ?_)
  clear s
  rintro w42 b13 s k43 -
  replace e17 := e17.st k43
  replace e18 := e18.st k43
  replace e10 := e10.st k43
  replace e1 := e1.st k43
  replace e15 := e15.st k43
  replace e16 := e16.st k43
  replace e2 := e2.st k43
  replace e3 := e3.st k43
  replace rp7 := rp7.st k43
  replace kk := kk.trans k43
  replace kS1 := kS1.trans k43
  have rp10 : RepL rp_T_api_Pair I25 w42 [.slice A17 x20.Key.length u17, .slice A18 x20.Val.length u18] ([x20] : List T_api_Pair) := RepL.cons (c := [.slice A17 x20.Key.length u17, .slice A18 x20.Val.length u18]) (d := []) (⟨[.slice A17 x20.Key.length u17], [.slice A18 x20.Val.length u18], rfl, ⟨_, _, rfl, hc17.1, hc17.2, e17⟩, ⟨_, _, rfl, hc18.1, hc18.2, e18⟩⟩) (RepL.nil)
  replace s : St w1 M I25 ((.sl (.slice (some ⟨b13, 0, none⟩) 1 1) 48 2 1 [.slice A17 x20.Key.length u17, .slice A18 x20.Val.length u18]) :: (.blk b12 (.cells #[.slice A17 x20.Key.length u17, .slice A18 x20.Val.length u18] 48 (0, 0))) :: (.blk b11 (.cells #[.slice A15 x19.Key.length u15, .slice A16 x19.Val.length u16] 48 (0, 0))) :: (.blk l1 (rec1 .busy none)) :: (.blk d3 (.deferred (some []))) :: (.blk b8 (.cells #[.slice A14 x18.length u14] 22 (0, 0))) :: (.blk b7 (.cells #[.int .i64 (IntKind.i64.wrap p2)] 3 (0, 0))) :: (.blk b1 (.cells #[.bool p0.Leaf, .slice (some ⟨b10, o1, none⟩) p0.Pairs.length u1, .slice A2 p0.Keys.length u2, .slice A3 p0.Kids.length u3] 26 (0, 0))) :: (.sl (.slice A14 x18.length u14) 48 2 x18.length cl7) :: F) w42 := s.blkSl (i := 0) (n := 1) (c := 1) (size := 2) rfl rfl (Nat.le_refl _) (by decide)
  have hs1 := St.src s (i := 0) rfl rfl rp10
  have rq1 := rp10
  obtain ⟨x21, hx14, hf⟩ := bindS hf
  refine RW.op (by kernel_rfl) (OK.app hT (r := rp_T_api_Pair) (i := 8) (t := 22) (e := 48) (size := 2) (bytes := 48) (c := u14) (n := x18.length) (m := 1) s (by kernel_rfl) rfl rfl rfl rfl rfl (by decide) rfl rfl rfl rfl rp7 hs1 rq1 (flat_iso (flat_pair flat_slice flat_slice)) rfl hx14 ?_)
  clear s
  rintro A19 u19 cl10 w43 s k44 rp11
  replace e17 := e17.st k44
  replace e18 := e18.st k44
  replace e10 := e10.st k44
  replace e1 := e1.st k44
  replace e15 := e15.st k44
  replace e16 := e16.st k44
  replace e2 := e2.st k44
  replace e3 := e3.st k44
  replace rp10 := rp10.st k44
  replace rp7 := rp7.st k44
  replace kk := kk.trans k44
  replace kS1 := kS1.trans k44
  refine RW.op (by kernel_rfl) (OK.store hT (i := 5) (b := b8) (off := 0) (n := 1) (vs := [.slice A19 x21.length u19]) (cs := [(.slice A14 x18.length u14)]) (e := 22) s (by kernel_rfl) rfl rfl (flat_ok rfl) (Nat.le_of_ble_eq_true rfl) ?_)
  clear s
  rintro w44 s k45 -
  replace e17 := e17.st k45
  replace e18 := e18.st k45
  replace e10 := e10.st k45
  replace e1 := e1.st k45
  replace e15 := e15.st k45
  replace e16 := e16.st k45
  replace e2 := e2.st k45
  replace e3 := e3.st k45
  replace rp10 := rp10.st k45
  replace rp11 := rp11.st k45
  replace kk := kk.trans k45
  replace kS1 := kS1.trans k45
  refine RW.nil ?_
  refine RoundEnd.next hrec1 s (i := 3) rfl ?_
  clear s
  intro w45 s k46
  replace e17 := e17.st k46
  replace e18 := e18.st k46
  replace e10 := e10.st k46
  replace e1 := e1.st k46
  replace e15 := e15.st k46
  replace e16 := e16.st k46
  replace e2 := e2.st k46
  replace e3 := e3.st k46
  replace rp10 := rp10.st k46
  replace rp11 := rp11.st k46
  replace kk := kk.trans k46
  replace kS1 := kS1.trans k46
  refine hR8 _ _ ?_
  refine RW.seg hT 1 [] [] [.bool false] [] (by kernel_rfl) (trivial) ?_
  refine RW.nil ?_
  refine WPK.condF (by kernel_rfl) ?_
  refine WPK.skip ?_
  refine WPK.region ?_
  refine RW.seg hT 2 [] [] [.int .i64 (IntKind.i64.wrap (x17 + 1)), .int .i64 (IntKind.i64.wrap (x17 + 1))] [] (by kernel_rfl) (trivial) ?_
  refine RW.nil ?_
  subst hrec2
  replace s := s.pick [3, 4, 5, 6, 7, 8] 9 rfl
  exact ⟨n5, Nat.le_refl _, fun X h => kc (by kernel_rfl) rfl (h I25 (IntKind.i64.wrap (x17 + 1)) x21 A19 u19 cl10 _ hf s kk kS1 e1 rp11 e2 e3 e10)⟩
  have hf := iteF h8 hf
  refine WPK.condF (Eq.trans (b := .bool (decide (x17 < (p0.Pairs.length : Int)))) (by kernel_rfl) (bo_f h8)) ?_
  refine WPK.exit (blockQ.same ?_)
  refine Fin.of (rs := []) hT [] (.tuple #[]) [] rfl (by kernel_rfl) (trivial) ?_
  refine hR7 _ _ (RangeEnd.done hrec1 s (i := 0) rfl ?_)
  clear s
  intro w46 s k47
  replace e10 := e10.st k47
  replace e1 := e1.st k47
  replace e2 := e2.st k47
  replace e3 := e3.st k47
  replace rp7 := rp7.st k47
  replace kk := kk.trans k47
  replace kS1 := kS1.trans k47
  replace s := s.pick [1, 3, 0, 4] 5 rfl
  exact fun X h => kc (by kernel_rfl) rfl (h I22 x18 d3 A14 u14 cl7 _ hf s kk kS1 rp7 e1 e2 e3 e10)
  have hf := iteF h5 hf
  refine RD.segM hT ht1 (by kernel_rfl) [26, 27, 29, 30, 33, 34, 35] [] [(78, .bool false)] [.bool false, undef, undef, undef, undef, undef, undef] [.veq (.bool (x12)) (.bool false)] (by kernel_rfl) (by rintro w' ⟨I', s, k⟩; have e4 := e4S1.st k; have e5 := e5S1.st k; have e1 := e1S1.st k; have e2 := e2S1.st k; have e3 := e3S1.st k; exact b_f h5) ⟨_, s.pick [3] 4 rfl, kS1⟩ ?_
  refine RD.skip (i := 28) rfl (by kernel_rfl) (by kernel_rfl) ?_
  refine ⟨fun _ => ⟨_, s.pick [3] 4 rfl, kS1⟩, ?_⟩
  refine RD.skip (i := 31) rfl (by kernel_rfl) (by kernel_rfl) ?_
  refine ⟨fun _ => ⟨_, s.pick [3] 4 rfl, kS1⟩, ?_⟩
  refine RD.skip (i := 32) rfl (by kernel_rfl) (by kernel_rfl) ?_
  refine ⟨fun _ => ⟨_, s.pick [3] 4 rfl, kS1⟩, ?_⟩
  refine RD.skip (i := 36) rfl (by kernel_rfl) (by kernel_rfl) ?_
  refine ⟨fun _ => ⟨_, s.pick [3] 4 rfl, kS1⟩, ?_⟩
  refine RD.skip (i := 37) rfl (by kernel_rfl) (by kernel_rfl) ?_
  refine ⟨fun _ => ⟨_, s.pick [3] 4 rfl, kS1⟩, ?_⟩
  refine RD.segM hT ht1 (by kernel_rfl) [38, 39] [] [] [.bool false, .bool false] [] (by kernel_rfl) (fun _ _ => trivial) ⟨_, s.pick [3] 4 rfl, kS1⟩ ?_
  refine RD.done (by kernel_rfl) ?_
  replace s := s.pick [] 4 rfl
  exact fun X h => kc (by kernel_rfl) rfl (h I14 false _ hf s kk)
  refine WPK.seq ?_
  refine WPK.region ?_
  refine RW.seg hT 1 [] [] [.func (.func 56) #[] #[.pointer (some ⟨b2, 0, none⟩)]] [] (by kernel_rfl) (trivial) ?_
  refine RW.nil ?_
  refine WPK.block ?_
  refine WPK.range (gf := 56) (first := []) (cap := [.pointer (some ⟨b2, 0, none⟩)]) s (by kernel_rfl) en56 ?_
  clear s
  intro l2 d4 rec3 w47 R9 hrec3 s k48 hR9
  replace e5 := e5.st k48
  replace e1 := e1.st k48
  replace e2 := e2.st k48
  replace e3 := e3.st k48
  replace kk := kk.trans k48
  replace kS1 := kS1.trans k48
  refine Ret.of Try.func56 rfl ?_
  refine WPK.seq ?_
  refine WPK.seq ?_
  refine WPK.region ?_
  refine RW.seg hT 1 [.agg #[.bool p0.Leaf, .slice A1 p0.Pairs.length u1, .slice A2 p0.Keys.length u2, .slice A3 p0.Kids.length u3]] [] [.agg #[.bool p0.Leaf, .slice A1 p0.Pairs.length u1, .slice A2 p0.Keys.length u2, .slice A3 p0.Kids.length u3]] [.cells ⟨b2, 0, none⟩ [.bool p0.Leaf, .slice A1 p0.Pairs.length u1, .slice A2 p0.Keys.length u2, .slice A3 p0.Kids.length u3] 4] (by kernel_rfl) (s.cells (i := 4) rfl rfl rfl) ?_
  obtain ⟨x22, hx15, hf⟩ := bindS hf
  refine RW.op (by kernel_rfl) (OK.call' en50 (by kernel_rfl) (c50 (F := (.blk l2 (rec3 .ready none)) :: (.blk d4 (.deferred (some []))) :: (.blk b4 (.cells #[.slice none 0 0] 22 (0, 0))) :: (.blk b3 (.cells #[.int .i64 1048576] 3 (0, 0))) :: (.blk b2 (.cells #[.bool p0.Leaf, .slice A1 p0.Pairs.length u1, .slice A2 p0.Keys.length u2, .slice A3 p0.Kids.length u3] 26 (0, 0))) :: (.blk b1 (.cells #[.bool p0.Leaf, .slice A1 p0.Pairs.length u1, .slice A2 p0.Keys.length u2, .slice A3 p0.Kids.length u3] 26 (0, 0))) :: F) p0 A1 u1 A2 u2 A3 u3 hc1 e1 hc2 e2 hc3 e3 s hx15) ?_)
  intro X18 hX18
  refine fun _ _ hJ => hJ X18 ?_
  clear s
  intro I26 w48 s k49
  refine hX18 _ _ ?_
  replace e1 := e1.st k49
  replace e2 := e2.st k49
  replace e3 := e3.st k49
  replace e5 := e5.st k49
  replace kk := kk.trans k49
  replace kS1 := kS1.trans k49
  refine RW.seg hT 1 [] [(8, .bool (decide (¬ (x22 = true))))] [.bool (decide (¬ (x22 = true)))] [.veq (.bool (!x22)) (.bool (decide (¬ (x22 = true))))] (by kernel_rfl) (not_b) ?_
  refine RW.nil ?_
  by_cases h11 : ¬ (x22 = true)
  have hf := iteT h11 hf
  refine WPK.condT (Eq.trans (b := .bool (decide (¬ (x22 = true)))) (by kernel_rfl) (bo_t h11)) ?_
  refine WPK.ret (?_)
  refine Fin.of (rs := []) hT [] (.tuple #[]) [] rfl (by kernel_rfl) (trivial) ?_
  refine hR9 _ _ (RangeEnd.done hrec3 s (i := 0) rfl ?_)
  clear s
  intro w49 s k50
  replace e5 := e5.st k50
  replace e1 := e1.st k50
  replace e2 := e2.st k50
  replace e3 := e3.st k50
  replace kk := kk.trans k50
  replace kS1 := kS1.trans k50
  replace s := s.pushNil 48 2
  replace s := s.pick [2, 5, 1, 0] 6 rfl
  exact fun X h => kc (by kernel_rfl) rfl (h I26 ([] : List T_api_Pair) d4 none 0 [] _ hf s kk kS1 (RepL.nil (r := rp_T_api_Pair)) e1 e2 e3 e5)
  have hf := iteF h11 hf
  refine WPK.condF (Eq.trans (b := .bool (decide (¬ (x22 = true)))) (by kernel_rfl) (bo_f h11)) ?_
  refine WPK.skip ?_
  refine WPK.seq ?_
  refine WPK.region ?_
  refine RW.seg hT 4 [.slice A1 p0.Pairs.length u1] [] [.pointer (some ⟨b2, 1, none⟩), .slice A1 p0.Pairs.length u1, .int .i64 (p0.Pairs.length : Int), .int .i64 0] [.cell ⟨b2, 1, none⟩ (.slice A1 p0.Pairs.length u1)] (by kernel_rfl) (s.cell (i := 4) (off := 1) rfl rfl) ?_
  refine RW.nil ?_
  refine WPK.block ?_
  replace s := s.pushNil 48 2
  replace s := s.pick [1, 2, 3, 4, 6, 0] 7 rfl
  refine WPK.loop' (J := fun n8 D7 ds wz => ∀ X : Kont, (∀ (I27 : Nat → Prop) (x23 : Int) (x24 : (List T_api_Pair)) (A20 : Option Addr) (u20 : Nat) (cl11 : List Value) (w' : World), g4_l7 p0 p2 x5 x6 n8 x23 x24 = some r → St w1 M I27 ((.blk l2 (rec3 .ready none)) :: (.blk d4 (.deferred (some []))) :: (.blk b4 (.cells #[.slice A20 x24.length u20] 22 (0, 0))) :: (.blk b3 (.cells #[.int .i64 1048576] 3 (0, 0))) :: (.blk b1 (.cells #[.bool p0.Leaf, .slice A1 p0.Pairs.length u1, .slice A2 p0.Keys.length u2, .slice A3 p0.Kids.length u3] 26 (0, 0))) :: (.sl (.slice A20 x24.length u20) 48 2 x24.length cl11) :: F) w' → Kp I w I27 w' → Kp I5 w7 I27 w' → Elems rp_T_api_Pair I27 w' A1 p0.Pairs → RepL rp_T_api_Pair I27 w' cl11 x24 → Elems (Rp.slice (Rp.int .u8)) I27 w' A2 p0.Keys → Elems (Rp.int .i64) I27 w' A3 p0.Kids → Elems rp_T_api_Pair I27 w' A5 x5 → X [.func (.yield l2) #[] #[], (D7.getD 1 undef), (D7.getD 2 undef), (D7.getD 3 undef), (D7.getD 4 undef), (D7.getD 5 undef), (D7.getD 6 undef), (D7.getD 7 undef), (D7.getD 8 undef), (D7.getD 9 undef), .slice A1 p0.Pairs.length u1, .int .i64 (p0.Pairs.length : Int), .int .i64 x23, (D7.getD 13 undef), (D7.getD 14 undef), (D7.getD 15 undef), (D7.getD 16 undef), (D7.getD 17 undef), (D7.getD 18 undef), (D7.getD 19 undef), (D7.getD 20 undef), (D7.getD 21 undef), (D7.getD 22 undef), (D7.getD 23 undef), (D7.getD 24 undef), (D7.getD 25 undef)] [] w') → X D7 ds wz) FUEL (fun X h => kc (by kernel_rfl) rfl (h I26 0 ([] : List T_api_Pair) none 0 [] _ hf s kk kS1 e1 (RepL.nil (r := rp_T_api_Pair)) e2 e3 e5)) (fun _ _ _ hJ => hJ (fun _ _ _ => False) (by intro I27 x23 x24 A20 u20 cl11 w50 hf s kk kS1 e1 rp12 e2 e3 e5; exact noneS hf)) ?_
  intro X19 hX19
  refine fun n8 D7 _ _ hJ => hJ (X19 n8) ?_
  clear s
  intro I27 x23 x24 A20 u20 cl11 w50 hf s kk kS1 e1 rp12 e2 e3 e5
  refine hX19 _ _ _ _ ?_
  replace hf : g4_l7B p0 p2 x5 x6 (g4_l7 p0 p2 x5 x6 n8) x23 x24 = some r := hf
  generalize hrec4 : g4_l7 p0 p2 x5 x6 n8 = rec4 at hf
  unfold g4_l7B at hf
  refine WPK.seq ?_
  refine WPK.region ?_
  refine RW.seg hT 1 [] [] [.bool (decide (x23 < (p0.Pairs.length : Int)))] [] (by kernel_rfl) (trivial) ?_
  refine RW.nil ?_
  refine WPK.seq ?_
  by_cases h12 : x23 < (p0.Pairs.length : Int)
  have hf := iteT h12 hf
  refine WPK.condT (Eq.trans (b := .bool (decide (x23 < (p0.Pairs.length : Int)))) (by kernel_rfl) (bo_t h12)) ?_
  refine WPK.skip ?_
  refine WPK.seq ?_
  refine WPK.block ?_
  refine WPK.seq ?_
  refine WPK.region ?_
  obtain ⟨x25, hx16, hf⟩ := bindS hf
  obtain ⟨h13, hx16⟩ := getS hx16
  obtain ⟨b14, o2, rfl⟩ := Elems.opn e1 hx16
  obtain ⟨cs4, hr4, ha2⟩ := Elems.get e1 hx16
  obtain ⟨cs5, cs6, rfl, hr5, hr6⟩ := hr4
  obtain ⟨A21, u21, rfl, q6, q7, e19⟩ := hr5
  have hc19 := And.intro q6 q7
  obtain ⟨A22, u22, rfl, q8, q9, e20⟩ := hr6
  have hc20 := And.intro q8 q9
  refine RW.seg hT 2 [.agg #[.slice A21 x25.Key.length u21, .slice A22 x25.Val.length u22]] [] [.pointer (some ⟨b14, o2 + x23.toNat * 2, none⟩), .agg #[.slice A21 x25.Key.length u21, .slice A22 x25.Val.length u22]] [.idx x23 p0.Pairs.length, .cells ⟨b14, o2 + x23.toNat * 2, none⟩ [.slice A21 x25.Key.length u21, .slice A22 x25.Val.length u22] 2] (by kernel_rfl) (⟨h13, at_cells ha2 (off := 0) rfl rfl⟩) ?_
  refine RW.op (by kernel_rfl) (OK.new hT (f := fun b => .pointer (some ⟨b, 0, none⟩)) (cs := [.slice none 0 0, .slice none 0 0]) (e := 48) (c := .tt) s (by kernel_rfl) trivial ?_)
  clear s
  rintro w51 b15 s k51 -
  replace e1 := e1.st k51
  replace e19 := e19.st k51
  replace e20 := e20.st k51
  replace e5 := e5.st k51
  replace e2 := e2.st k51
  replace e3 := e3.st k51
  replace rp12 := rp12.st k51
  replace kk := kk.trans k51
  replace kS1 := kS1.trans k51
  refine RW.op (by kernel_rfl) (OK.store hT (i := 0) (b := b15) (off := 0) (n := 2) (vs := [.slice A21 x25.Key.length u21, .slice A22 x25.Val.length u22]) (cs := [.slice none 0 0, .slice none 0 0]) (e := 48) s (by kernel_rfl) rfl rfl (flat_ok rfl) (Nat.le_of_ble_eq_true rfl) ?_)
  clear s
  rintro w52 s k52 -
  replace e1 := e1.st k52
  replace e19 := e19.st k52
  replace e20 := e20.st k52
  replace e5 := e5.st k52
  replace e2 := e2.st k52
  replace e3 := e3.st k52
  replace rp12 := rp12.st k52
  replace kk := kk.trans k52
  replace kS1 := kS1.trans k52
  refine RW.nil ?_
  refine WPK.seq ?_
  refine WPK.region ?_
  refine RW.seg hT 1 [.agg #[.slice A21 x25.Key.length u21, .slice A22 x25.Val.length u22]] [] [.agg #[.slice A21 x25.Key.length u21, .slice A22 x25.Val.length u22]] [.cells ⟨b15, 0, none⟩ [.slice A21 x25.Key.length u21, .slice A22 x25.Val.length u22] 2] (by kernel_rfl) (s.cells (i := 0) rfl rfl rfl) ?_
  obtain ⟨x26, hx17, hf⟩ := bindS hf
  refine RW.op (by kernel_rfl) (OK.call' en57 (by kernel_rfl) (c57 (F := (.blk b15 (.cells #[.slice A21 x25.Key.length u21, .slice A22 x25.Val.length u22] 48 (0, 0))) :: (.blk l2 (rec3 .ready none)) :: (.blk d4 (.deferred (some []))) :: (.blk b4 (.cells #[.slice A20 x24.length u20] 22 (0, 0))) :: (.blk b3 (.cells #[.int .i64 1048576] 3 (0, 0))) :: (.blk b1 (.cells #[.bool p0.Leaf, .slice (some ⟨b14, o2, none⟩) p0.Pairs.length u1, .slice A2 p0.Keys.length u2, .slice A3 p0.Kids.length u3] 26 (0, 0))) :: (.sl (.slice A20 x24.length u20) 48 2 x24.length cl11) :: F) x25 A21 u21 A22 u22 hc19 e19 hc20 e20 s hx17) ?_)
  intro X20 hX20
  refine fun _ _ hJ => hJ X20 ?_
  clear s
  intro I28 A23 n9 u23 cl12 A24 n10 u24 cl13 w53 s k53 hn7 rp13 hn8 rp14
  refine hX20 _ _ ?_
  replace e1 := e1.st k53
  replace e19 := e19.st k53
  replace e20 := e20.st k53
  replace e5 := e5.st k53
  replace e2 := e2.st k53
  replace e3 := e3.st k53
  replace rp12 := rp12.st k53
  replace kk := kk.trans k53
  replace kS1 := kS1.trans k53
  rw [hn7] at s
  try rw [hn7]
  obtain ⟨I29, s', k54, hc21, e21⟩ := St.give s (i := 0) rfl rfl rp13
  replace s := s'; clear s'
  replace e1 := e1.st k54
  replace e19 := e19.st k54
  replace e20 := e20.st k54
  replace e5 := e5.st k54
  replace e2 := e2.st k54
  replace e3 := e3.st k54
  replace rp14 := rp14.st k54
  replace rp12 := rp12.st k54
  replace kk := kk.trans k54
  replace kS1 := kS1.trans k54
  rw [hn8] at s
  try rw [hn8]
  obtain ⟨I30, s', k55, hc22, e22⟩ := St.give s (i := 0) rfl rfl rp14
  replace s := s'; clear s'
  replace e1 := e1.st k55
  replace e19 := e19.st k55
  replace e20 := e20.st k55
  replace e21 := e21.st k55
  replace e5 := e5.st k55
  replace e2 := e2.st k55
  replace e3 := e3.st k55
  replace rp12 := rp12.st k55
  replace kk := kk.trans k55
  replace kS1 := kS1.trans k55
  refine RW.op (by kernel_rfl) (OK.new hT (f := fun b => .pointer (some ⟨b, 0, none⟩)) (cs := [.slice none 0 0, .slice none 0 0]) (e := 48) (c := .tt) s (by kernel_rfl) trivial ?_)
  clear s
  rintro w54 b16 s k56 -
  replace e1 := e1.st k56
  replace e19 := e19.st k56
  replace e20 := e20.st k56
  replace e21 := e21.st k56
  replace e22 := e22.st k56
  replace e5 := e5.st k56
  replace e2 := e2.st k56
  replace e3 := e3.st k56
  replace rp12 := rp12.st k56
  replace kk := kk.trans k56
  replace kS1 := kS1.trans k56
  refine RW.op (by kernel_rfl) (OK.store hT (i := 0) (b := b16) (off := 0) (n := 2) (vs := [.slice A23 x26.Key.length u23, .slice A24 x26.Val.length u24]) (cs := [.slice none 0 0, .slice none 0 0]) (e := 48) s (by kernel_rfl) rfl rfl (flat_ok rfl) (Nat.le_of_ble_eq_true rfl) ?_)
  clear s
  rintro w55 s k57 -
  replace e1 := e1.st k57
  replace e19 := e19.st k57
  replace e20 := e20.st k57
  replace e21 := e21.st k57
  replace e22 := e22.st k57
  replace e5 := e5.st k57
  replace e2 := e2.st k57
  replace e3 := e3.st k57
  replace rp12 := rp12.st k57
  replace kk := kk.trans k57
  replace kS1 := kS1.trans k57
  refine RW.nil ?_
  refine WPK.seq ?_
  refine WPK.region ?_
  refine RW.seg hT 5 [.slice A23 x26.Key.length u23, .slice A24 x26.Val.length u24] [] [.func (.yield l2) #[] #[], .pointer (some ⟨b16, 0, none⟩), .slice A23 x26.Key.length u23, .pointer (some ⟨b16, 1, none⟩), .slice A24 x26.Val.length u24] [.cell ⟨b16, 0, none⟩ (.slice A23 x26.Key.length u23), .cell ⟨b16, 1, none⟩ (.slice A24 x26.Val.length u24)] (by kernel_rfl) (⟨s.cell (i := 0) (off := 0) rfl rfl, s.cell (i := 0) (off := 1) rfl rfl⟩) ?_
  refine RW.op (by kernel_rfl) (OK.yield (args := [.slice A23 x26.Key.length u23, .slice A24 x26.Val.length u24]) hrec3 s (i := 2) rfl (by kernel_rfl) rfl ?_)
  intro R10 hR10
  refine WPK.seq ?_
  refine WPK.region ?_
  refine RW.seg hT 1 [] [] [.slice A23 x26.Key.length u23] [] (by kernel_rfl) (trivial) ?_
  refine RW.nil ?_
  refine WPK.region ?_
  refine RW.seg hT 1 [] [] [.slice A24 x26.Val.length u24] [] (by kernel_rfl) (trivial) ?_
  refine RW.nil ?_
  refine RoundBeg.of hrec3 s (i := 2) rfl ?_
  clear s
  intro w56 s k58
  replace e21 := e21.st k58
  replace e22 := e22.st k58
  replace e5 := e5.st k58
  replace e1 := e1.st k58
  replace e19 := e19.st k58
  replace e20 := e20.st k58
  replace e2 := e2.st k58
  replace e3 := e3.st k58
  replace rp12 := rp12.st k58
  replace kk := kk.trans k58
  replace kS1 := kS1.trans k58
  refine WPK.block ?_
  refine WPK.seq ?_
  refine WPK.seq ?_
  refine WPK.region ?_
  refine RW.seg hT 4 [.slice A20 x24.length u20, .int .i64 1048576] [(14, .int .i64 (x24.length : Int))] [.slice A20 x24.length u20, .int .i64 (x24.length : Int), .int .i64 1048576, .bool (decide ((x24.length : Int) ≥ 1048576))] [.cell ⟨b4, 0, none⟩ (.slice A20 x24.length u20), .veq (.int .i64 (x24.length : Nat)) (.int .i64 (x24.length : Int)), .cell ⟨b3, 0, none⟩ (.int .i64 1048576)] (by kernel_rfl) (⟨s.cell (i := 4) (off := 0) rfl rfl, len_v rfl, s.cell (i := 5) (off := 0) rfl rfl⟩) ?_
  refine RW.nil ?_
  by_cases h14 : (x24.length : Int) ≥ 1048576
  have hf := iteT h14 hf
  refine WPK.condT (Eq.trans (b := .bool (decide ((x24.length : Int) ≥ 1048576))) (by kernel_rfl) (bo_t h14)) ?_
  refine WPK.exit (blockQ.other rfl (?_))
  refine RoundEnd.stop (Code.exit 0) hrec3 s (i := 2) rfl ?_
  clear s
  intro w57 s k59
  replace e21 := e21.st k59
  replace e22 := e22.st k59
  replace e5 := e5.st k59
  replace e1 := e1.st k59
  replace e19 := e19.st k59
  replace e20 := e20.st k59
  replace e2 := e2.st k59
  replace e3 := e3.st k59
  replace rp12 := rp12.st k59
  replace kk := kk.trans k59
  replace kS1 := kS1.trans k59
  refine hR10 _ _ ?_
  refine RW.seg hT 1 [] [] [.bool true] [] (by kernel_rfl) (trivial) ?_
  refine RW.nil ?_
  refine WPK.condT (by kernel_rfl) ?_
  refine WPK.ret (blockQ.ret (blockQ.ret (?_)))
  refine Fin.of (rs := []) hT [] (.tuple #[]) [] rfl (by kernel_rfl) (trivial) ?_
  refine hR9 _ _ (RangeEnd.jump hrec3 s (i := 2) rfl ?_)
  clear s
  intro w58 s k60
  replace e5 := e5.st k60
  replace e21 := e21.st k60
  replace e22 := e22.st k60
  replace e19 := e19.st k60
  replace e20 := e20.st k60
  replace e1 := e1.st k60
  replace e2 := e2.st k60
  replace e3 := e3.st k60
  replace rp12 := rp12.st k60
  replace kk := kk.trans k60
  replace kS1 := kS1.trans k60
  refine WPK.exit (blockQ.same ?_)
  replace s := s.pick [3, 5, 2, 6] 7 rfl
  exact fun X h => kc (by kernel_rfl) rfl (h I30 x24 d4 A20 u20 cl11 _ hf s kk kS1 rp12 e1 e2 e3 e5)
  have hf := iteF h14 hf
  refine WPK.condF (Eq.trans (b := .bool (decide ((x24.length : Int) ≥ 1048576))) (by kernel_rfl) (bo_f h14)) ?_
  refine WPK.skip ?_
  refine WPK.region ?_
  refine RW.seg hT 4 [.slice A20 x24.length u20] [] [.slice A20 x24.length u20, .slice A23 x26.Key.length u23, .slice A24 x26.Val.length u24, .agg #[.slice A23 x26.Key.length u23, .slice A24 x26.Val.length u24]] [.cell ⟨b4, 0, none⟩ (.slice A20 x24.length u20)] (by kernel_rfl) (s.cell (i := 4) (off := 0) rfl rfl) ?_
  refine RW.op (by kernel_rfl) (OK.new hT (f := fun b => .slice (some ⟨b, 0, none⟩) 1 1) (cs := [.slice A23 x26.Key.length u23, .slice A24 x26.Val.length u24]) (e := 48) (c := .tt) s (by kernel_rfl) trivial ?_)
  clear s
  rintro w59 b17 s k61 -
  replace e21 := e21.st k61
  replace e22 := e22.st k61
  replace e5 := e5.st k61
  replace e1 := e1.st k61
  replace e19 := e19.st k61
  replace e20 := e20.st k61
  replace e2 := e2.st k61
  replace e3 := e3.st k61
  replace rp12 := rp12.st k61
  replace kk := kk.trans k61
  replace kS1 := kS1.trans k61
  have rp15 : RepL rp_T_api_Pair I30 w59 [.slice A23 x26.Key.length u23, .slice A24 x26.Val.length u24] ([x26] : List T_api_Pair) := RepL.cons (c := [.slice A23 x26.Key.length u23, .slice A24 x26.Val.length u24]) (d := []) (⟨[.slice A23 x26.Key.length u23], [.slice A24 x26.Val.length u24], rfl, ⟨_, _, rfl, hc21.1, hc21.2, e21⟩, ⟨_, _, rfl, hc22.1, hc22.2, e22⟩⟩) (RepL.nil)
  replace s : St w1 M I30 ((.sl (.slice (some ⟨b17, 0, none⟩) 1 1) 48 2 1 [.slice A23 x26.Key.length u23, .slice A24 x26.Val.length u24]) :: (.blk b16 (.cells #[.slice A23 x26.Key.length u23, .slice A24 x26.Val.length u24] 48 (0, 0))) :: (.blk b15 (.cells #[.slice A21 x25.Key.length u21, .slice A22 x25.Val.length u22] 48 (0, 0))) :: (.blk l2 (rec3 .busy none)) :: (.blk d4 (.deferred (some []))) :: (.blk b4 (.cells #[.slice A20 x24.length u20] 22 (0, 0))) :: (.blk b3 (.cells #[.int .i64 1048576] 3 (0, 0))) :: (.blk b1 (.cells #[.bool p0.Leaf, .slice (some ⟨b14, o2, none⟩) p0.Pairs.length u1, .slice A2 p0.Keys.length u2, .slice A3 p0.Kids.length u3] 26 (0, 0))) :: (.sl (.slice A20 x24.length u20) 48 2 x24.length cl11) :: F) w59 := s.blkSl (i := 0) (n := 1) (c := 1) (size := 2) rfl rfl (Nat.le_refl _) (by decide)
  have hs2 := St.src s (i := 0) rfl rfl rp15
  have rq2 := rp15
  obtain ⟨x27, hx18, hf⟩ := bindS hf
  refine RW.op (by kernel_rfl) (OK.app hT (r := rp_T_api_Pair) (i := 8) (t := 22) (e := 48) (size := 2) (bytes := 48) (c := u20) (n := x24.length) (m := 1) s (by kernel_rfl) rfl rfl rfl rfl rfl (by decide) rfl rfl rfl rfl rp12 hs2 rq2 (flat_iso (flat_pair flat_slice flat_slice)) rfl hx18 ?_)
  clear s
  rintro A25 u25 cl14 w60 s k62 rp16
  replace e21 := e21.st k62
  replace e22 := e22.st k62
  replace e5 := e5.st k62
  replace e1 := e1.st k62
  replace e19 := e19.st k62
  replace e20 := e20.st k62
  replace e2 := e2.st k62
  replace e3 := e3.st k62
  replace rp15 := rp15.st k62
  replace rp12 := rp12.st k62
  replace kk := kk.trans k62
  replace kS1 := kS1.trans k62
  refine RW.op (by kernel_rfl) (OK.store hT (i := 5) (b := b4) (off := 0) (n := 1) (vs := [.slice A25 x27.length u25]) (cs := [(.slice A20 x24.length u20)]) (e := 22) s (by kernel_rfl) rfl rfl (flat_ok rfl) (Nat.le_of_ble_eq_true rfl) ?_)
  clear s
  rintro w61 s k63 -
  replace e21 := e21.st k63
  replace e22 := e22.st k63
  replace e5 := e5.st k63
  replace e1 := e1.st k63
  replace e19 := e19.st k63
  replace e20 := e20.st k63
  replace e2 := e2.st k63
  replace e3 := e3.st k63
  replace rp15 := rp15.st k63
  replace rp16 := rp16.st k63
  replace kk := kk.trans k63
  replace kS1 := kS1.trans k63
  refine RW.nil ?_
  refine RoundEnd.next hrec3 s (i := 3) rfl ?_
  clear s
  intro w62 s k64
  replace e21 := e21.st k64
  replace e22 := e22.st k64
  replace e5 := e5.st k64
  replace e1 := e1.st k64
  replace e19 := e19.st k64
  replace e20 := e20.st k64
  replace e2 := e2.st k64
  replace e3 := e3.st k64
  replace rp15 := rp15.st k64
  replace rp16 := rp16.st k64
  replace kk := kk.trans k64
  replace kS1 := kS1.trans k64
  refine hR10 _ _ ?_
  refine RW.seg hT 1 [] [] [.bool false] [] (by kernel_rfl) (trivial) ?_
  refine RW.nil ?_
  refine WPK.condF (by kernel_rfl) ?_
  refine WPK.skip ?_
  refine WPK.region ?_
  refine RW.seg hT 2 [] [] [.int .i64 (IntKind.i64.wrap (x23 + 1)), .int .i64 (IntKind.i64.wrap (x23 + 1))] [] (by kernel_rfl) (trivial) ?_
  refine RW.nil ?_
  subst hrec4
  replace s := s.pick [3, 4, 5, 6, 7, 8] 9 rfl
  exact ⟨n8, Nat.le_refl _, fun X h => kc (by kernel_rfl) rfl (h I30 (IntKind.i64.wrap (x23 + 1)) x27 A25 u25 cl14 _ hf s kk kS1 e1 rp16 e2 e3 e5)⟩
  have hf := iteF h12 hf
  refine WPK.condF (Eq.trans (b := .bool (decide (x23 < (p0.Pairs.length : Int)))) (by kernel_rfl) (bo_f h12)) ?_
  refine WPK.exit (blockQ.same ?_)
  refine Fin.of (rs := []) hT [] (.tuple #[]) [] rfl (by kernel_rfl) (trivial) ?_
  refine hR9 _ _ (RangeEnd.done hrec3 s (i := 0) rfl ?_)
  clear s
  intro w63 s k65
  replace e5 := e5.st k65
  replace e1 := e1.st k65
  replace e2 := e2.st k65
  replace e3 := e3.st k65
  replace rp12 := rp12.st k65
  replace kk := kk.trans k65
  replace kS1 := kS1.trans k65
  replace s := s.pick [1, 3, 0, 4] 5 rfl
  exact fun X h => kc (by kernel_rfl) rfl (h I27 x24 d4 A20 u20 cl11 _ hf s kk kS1 rp12 e1 e2 e3 e5)
  have hf := iteF h4 hf
  refine RD.segM hT ht1 (by kernel_rfl) [17, 18, 22] [] [(69, .bool false)] [.bool false, undef, undef] [.veq (.bool (decide (x8 = x9))) (.bool false)] (by kernel_rfl) (by rintro w' ⟨I', s, k⟩; have e4 := e4S1.st k; have e5 := e5S1.st k; have e1 := e1S1.st k; have e2 := e2S1.st k; have e3 := e3S1.st k; exact bo_f h4) ⟨_, s.pick [0] 1 rfl, kS1⟩ ?_
  refine RD.skip (i := 19) rfl (by kernel_rfl) (by kernel_rfl) ?_
  refine ⟨fun _ => ⟨_, s.pick [0] 1 rfl, kS1⟩, ?_⟩
  refine RD.skip (i := 20) rfl (by kernel_rfl) (by kernel_rfl) ?_
  refine ⟨fun _ => ⟨_, s.pick [0] 1 rfl, kS1⟩, ?_⟩
  refine RD.skip (i := 21) rfl (by kernel_rfl) (by kernel_rfl) ?_
  refine ⟨fun _ => ⟨_, s.pick [0] 1 rfl, kS1⟩, ?_⟩
  refine RD.skip (i := 23) rfl (by kernel_rfl) (by kernel_rfl) ?_
  refine ⟨fun _ => ⟨_, s.pick [0] 1 rfl, kS1⟩, ?_⟩
  refine RD.skip (i := 24) rfl (by kernel_rfl) (by kernel_rfl) ?_
  refine ⟨fun _ => ⟨_, s.pick [0] 1 rfl, kS1⟩, ?_⟩
  refine RD.segM hT ht1 (by kernel_rfl) [25, 26, 27, 29, 30, 33, 34, 35] [] [] [.bool false, .bool false, undef, undef, undef, undef, undef, undef] [] (by kernel_rfl) (fun _ _ => trivial) ⟨_, s.pick [0] 1 rfl, kS1⟩ ?_
  refine RD.skip (i := 28) rfl (by kernel_rfl) (by kernel_rfl) ?_
  refine ⟨fun _ => ⟨_, s.pick [0] 1 rfl, kS1⟩, ?_⟩
  refine RD.skip (i := 31) rfl (by kernel_rfl) (by kernel_rfl) ?_
  refine ⟨fun _ => ⟨_, s.pick [0] 1 rfl, kS1⟩, ?_⟩
  refine RD.skip (i := 32) rfl (by kernel_rfl) (by kernel_rfl) ?_
  refine ⟨fun _ => ⟨_, s.pick [0] 1 rfl, kS1⟩, ?_⟩
  refine RD.skip (i := 36) rfl (by kernel_rfl) (by kernel_rfl) ?_
  refine ⟨fun _ => ⟨_, s.pick [0] 1 rfl, kS1⟩, ?_⟩
  refine RD.skip (i := 37) rfl (by kernel_rfl) (by kernel_rfl) ?_
  refine ⟨fun _ => ⟨_, s.pick [0] 1 rfl, kS1⟩, ?_⟩
  refine RD.segM hT ht1 (by kernel_rfl) [38, 39] [] [] [.bool false, .bool false] [] (by kernel_rfl) (fun _ _ => trivial) ⟨_, s.pick [0] 1 rfl, kS1⟩ ?_
  refine RD.done (by kernel_rfl) ?_
  replace s := s.pick [] 1 rfl
  exact fun X h => kc (by kernel_rfl) rfl (h I8 false _ hf s kk)
  have hf := iteF h3 hf
  refine RD.segM hT ht1 (by kernel_rfl) [8, 9, 10, 12, 13] [] [(60, .bool false)] [.bool false, undef, undef, undef, undef] [.veq (.bool (decide (x3.2 = x4.2))) (.bool false)] (by kernel_rfl) (by rintro w' ⟨I', s, k⟩; have e4 := e4S1.st k; have e5 := e5S1.st k; have e1 := e1S1.st k; have e2 := e2S1.st k; have e3 := e3S1.st k; exact bo_f h3) ⟨_, s.pick [0] 1 rfl, kS1⟩ ?_
  refine RD.skip (i := 11) rfl (by kernel_rfl) (by kernel_rfl) ?_
  refine ⟨fun _ => ⟨_, s.pick [0] 1 rfl, kS1⟩, ?_⟩
  refine RD.skip (i := 14) rfl (by kernel_rfl) (by kernel_rfl) ?_
  refine ⟨fun _ => ⟨_, s.pick [0] 1 rfl, kS1⟩, ?_⟩
  refine RD.segM hT ht1 (by kernel_rfl) [15, 16, 17, 18, 22] [] [] [undef, .bool false, .bool false, undef, undef] [] (by kernel_rfl) (fun _ _ => trivial) ⟨_, s.pick [0] 1 rfl, kS1⟩ ?_
  refine RD.skip (i := 19) rfl (by kernel_rfl) (by kernel_rfl) ?_
  refine ⟨fun _ => ⟨_, s.pick [0] 1 rfl, kS1⟩, ?_⟩
  refine RD.skip (i := 20) rfl (by kernel_rfl) (by kernel_rfl) ?_
  refine ⟨fun _ => ⟨_, s.pick [0] 1 rfl, kS1⟩, ?_⟩
  refine RD.skip (i := 21) rfl (by kernel_rfl) (by kernel_rfl) ?_
  refine ⟨fun _ => ⟨_, s.pick [0] 1 rfl, kS1⟩, ?_⟩
  refine RD.skip (i := 23) rfl (by kernel_rfl) (by kernel_rfl) ?_
  refine ⟨fun _ => ⟨_, s.pick [0] 1 rfl, kS1⟩, ?_⟩
  refine RD.skip (i := 24) rfl (by kernel_rfl) (by kernel_rfl) ?_
  refine ⟨fun _ => ⟨_, s.pick [0] 1 rfl, kS1⟩, ?_⟩
  refine RD.segM hT ht1 (by kernel_rfl) [25, 26, 27, 29, 30, 33, 34, 35] [] [] [.bool false, .bool false, undef, undef, undef, undef, undef, undef] [] (by kernel_rfl) (fun _ _ => trivial) ⟨_, s.pick [0] 1 rfl, kS1⟩ ?_
  refine RD.skip (i := 28) rfl (by kernel_rfl) (by kernel_rfl) ?_
  refine ⟨fun _ => ⟨_, s.pick [0] 1 rfl, kS1⟩, ?_⟩
  refine RD.skip (i := 31) rfl (by kernel_rfl) (by kernel_rfl) ?_
  refine ⟨fun _ => ⟨_, s.pick [0] 1 rfl, kS1⟩, ?_⟩
  refine RD.skip (i := 32) rfl (by kernel_rfl) (by kernel_rfl) ?_
  refine ⟨fun _ => ⟨_, s.pick [0] 1 rfl, kS1⟩, ?_⟩
  refine RD.skip (i := 36) rfl (by kernel_rfl) (by kernel_rfl) ?_
  refine ⟨fun _ => ⟨_, s.pick [0] 1 rfl, kS1⟩, ?_⟩
  refine RD.skip (i := 37) rfl (by kernel_rfl) (by kernel_rfl) ?_
  refine ⟨fun _ => ⟨_, s.pick [0] 1 rfl, kS1⟩, ?_⟩
  refine RD.segM hT ht1 (by kernel_rfl) [38, 39] [] [] [.bool false, .bool false] [] (by kernel_rfl) (fun _ _ => trivial) ⟨_, s.pick [0] 1 rfl, kS1⟩ ?_
  refine RD.done (by kernel_rfl) ?_
  replace s := s.pick [] 1 rfl
  exact fun X h => kc (by kernel_rfl) rfl (h I5 false _ hf s kk)
  have hf := iteF h2 hf
  refine RD.segM hT ht1 (by kernel_rfl) [3, 4, 5, 6, 7, 8, 9, 10, 12, 13] [] [(55, .bool false)] [.bool false, undef, undef, undef, .bool false, .bool false, undef, undef, undef, undef] [.veq (.bool (decide (x3.1 = x4.1))) (.bool false)] (by kernel_rfl) (by rintro w' ⟨I', s, k⟩; have e4 := e4S1.st k; have e5 := e5S1.st k; have e1 := e1S1.st k; have e2 := e2S1.st k; have e3 := e3S1.st k; exact bo_f h2) ⟨_, s.pick [0] 1 rfl, kS1⟩ ?_
  refine RD.skip (i := 11) rfl (by kernel_rfl) (by kernel_rfl) ?_
  refine ⟨fun _ => ⟨_, s.pick [0] 1 rfl, kS1⟩, ?_⟩
  refine RD.skip (i := 14) rfl (by kernel_rfl) (by kernel_rfl) ?_
  refine ⟨fun _ => ⟨_, s.pick [0] 1 rfl, kS1⟩, ?_⟩
  refine RD.segM hT ht1 (by kernel_rfl) [15, 16, 17, 18, 22] [] [] [undef, .bool false, .bool false, undef, undef] [] (by kernel_rfl) (fun _ _ => trivial) ⟨_, s.pick [0] 1 rfl, kS1⟩ ?_
  refine RD.skip (i := 19) rfl (by kernel_rfl) (by kernel_rfl) ?_
  refine ⟨fun _ => ⟨_, s.pick [0] 1 rfl, kS1⟩, ?_⟩
  refine RD.skip (i := 20) rfl (by kernel_rfl) (by kernel_rfl) ?_
  refine ⟨fun _ => ⟨_, s.pick [0] 1 rfl, kS1⟩, ?_⟩
  refine RD.skip (i := 21) rfl (by kernel_rfl) (by kernel_rfl) ?_
  refine ⟨fun _ => ⟨_, s.pick [0] 1 rfl, kS1⟩, ?_⟩
  refine RD.skip (i := 23) rfl (by kernel_rfl) (by kernel_rfl) ?_
  refine ⟨fun _ => ⟨_, s.pick [0] 1 rfl, kS1⟩, ?_⟩
  refine RD.skip (i := 24) rfl (by kernel_rfl) (by kernel_rfl) ?_
  refine ⟨fun _ => ⟨_, s.pick [0] 1 rfl, kS1⟩, ?_⟩
  refine RD.segM hT ht1 (by kernel_rfl) [25, 26, 27, 29, 30, 33, 34, 35] [] [] [.bool false, .bool false, undef, undef, undef, undef, undef, undef] [] (by kernel_rfl) (fun _ _ => trivial) ⟨_, s.pick [0] 1 rfl, kS1⟩ ?_
  refine RD.skip (i := 28) rfl (by kernel_rfl) (by kernel_rfl) ?_
  refine ⟨fun _ => ⟨_, s.pick [0] 1 rfl, kS1⟩, ?_⟩
  refine RD.skip (i := 31) rfl (by kernel_rfl) (by kernel_rfl) ?_
  refine ⟨fun _ => ⟨_, s.pick [0] 1 rfl, kS1⟩, ?_⟩
  refine RD.skip (i := 32) rfl (by kernel_rfl) (by kernel_rfl) ?_
  refine ⟨fun _ => ⟨_, s.pick [0] 1 rfl, kS1⟩, ?_⟩
  refine RD.skip (i := 36) rfl (by kernel_rfl) (by kernel_rfl) ?_
  refine ⟨fun _ => ⟨_, s.pick [0] 1 rfl, kS1⟩, ?_⟩
  refine RD.skip (i := 37) rfl (by kernel_rfl) (by kernel_rfl) ?_
  refine ⟨fun _ => ⟨_, s.pick [0] 1 rfl, kS1⟩, ?_⟩
  refine RD.segM hT ht1 (by kernel_rfl) [38, 39] [] [] [.bool false, .bool false] [] (by kernel_rfl) (fun _ _ => trivial) ⟨_, s.pick [0] 1 rfl, kS1⟩ ?_
  refine RD.done (by kernel_rfl) ?_
  replace s := s.pick [] 1 rfl
  exact fun X h => kc (by kernel_rfl) rfl (h I5 false _ hf s kk)
  refine WPK.seq ?_
  refine WPK.region ?_
  refine RW.seg hT 2 [.bool p0.Leaf] [] [.pointer (some ⟨b1, 0, none⟩), .bool p0.Leaf] [.cell ⟨b1, 0, none⟩ (.bool p0.Leaf)] (by kernel_rfl) (s.cell (i := 0) (off := 0) rfl rfl) ?_
  by_cases h15 : p0.Leaf = true
  have hf := iteT h15 hf
  refine RW.seg hT 2 [.agg #[.bool p0.Leaf, .slice A1 p0.Pairs.length u1, .slice A2 p0.Keys.length u2, .slice A3 p0.Kids.length u3]] [(41, .bool true)] [.bool true, .agg #[.bool p0.Leaf, .slice A1 p0.Pairs.length u1, .slice A2 p0.Keys.length u2, .slice A3 p0.Kids.length u3]] [.veq (.bool (p0.Leaf)) (.bool true), .cells ⟨b1, 0, none⟩ [.bool p0.Leaf, .slice A1 p0.Pairs.length u1, .slice A2 p0.Keys.length u2, .slice A3 p0.Kids.length u3] 4] (by kernel_rfl) (⟨b_t h15, s.cells (i := 0) rfl rfl rfl⟩) ?_
  obtain ⟨x28, hx19, hf⟩ := bindS hf
  refine RW.op (by kernel_rfl) (OK.call' en18 (by kernel_rfl) (c18 (F := (.blk b1 (.cells #[.bool p0.Leaf, .slice A1 p0.Pairs.length u1, .slice A2 p0.Keys.length u2, .slice A3 p0.Kids.length u3] 26 (0, 0))) :: F) p0 A1 u1 A2 u2 A3 u3 hc1 e1 hc2 e2 hc3 e3 s hx19) ?_)
  intro X21 hX21
  refine fun _ _ hJ => hJ X21 ?_
  clear s
  intro I31 w64 s k66
  refine hX21 _ _ ?_
  replace e4 := e4.st k66
  replace e1 := e1.st k66
  replace e2 := e2.st k66
  replace e3 := e3.st k66
  replace kk := kk.trans k66
  refine RW.seg hT 1 [] [] [.bool x28] [] (by kernel_rfl) (trivial) ?_
  refine RW.nil ?_
  by_cases h16 : x28 = true
  have hf := iteT h16 hf
  refine WPK.condT (Eq.trans (b := .bool x28) (by kernel_rfl) (b_t h16)) ?_
  refine WPK.region ?_
  refine RW.seg hT 3 [.slice A1 p0.Pairs.length u1] [] [.pointer (some ⟨b1, 1, none⟩), .slice A1 p0.Pairs.length u1, .slice A1 p0.Pairs.length u1] [.cell ⟨b1, 1, none⟩ (.slice A1 p0.Pairs.length u1)] (by kernel_rfl) (s.cell (i := 0) (off := 1) rfl rfl) ?_
  refine RW.nil ?_
  exact fun X h => kc (by kernel_rfl) rfl (h I31 p0.Pairs A1 u1 _ hf s kk e4 hc1 e1 e1 e2 e3)
  have hf := iteF h16 hf
  refine WPK.condF (Eq.trans (b := .bool x28) (by kernel_rfl) (b_f h16)) ?_
  refine WPK.skip ?_
  exact fun X h => kc (by kernel_rfl) rfl (h I31 [] none 0 _ hf s kk e4 nil_hc Elems.nil e1 e2 e3)
  have hf := iteF h15 hf
  refine RW.seg hT 4 [] [(41, .bool false)] [.bool false, undef, undef, .bool false] [.veq (.bool (p0.Leaf)) (.bool false)] (by kernel_rfl) (b_f h15) ?_
  refine RW.nil ?_
  refine WPK.condF (by kernel_rfl) ?_
  refine WPK.skip ?_
  exact fun X h => kc (by kernel_rfl) rfl (h I4 [] none 0 _ hf s kk e4 nil_hc Elems.nil e1 e2 e3)
  refine WPK.region ?_
  obtain ⟨x29, hx20, hf⟩ := bindS hf
  refine RW.op (by kernel_rfl) (OK.call' en11 (by kernel_rfl) (c11 (F := (.blk b1 (.cells #[.bool p0.Leaf, .slice A1 p0.Pairs.length u1, .slice A2 p0.Keys.length u2, .slice A3 p0.Kids.length u3] 26 (0, 0))) :: F) s hx20) ?_)
  intro X22 hX22
  refine fun _ _ hJ => hJ X22 ?_
  clear s
  intro I32 w65 s k67
  refine hX22 _ _ ?_
  replace e1 := e1.st k67
  replace e2 := e2.st k67
  replace e3 := e3.st k67
  replace e4 := e4.st k67
  replace kk := kk.trans k67
  refine RW.seg hT 1 [] [(14, .bool (decide (¬ (x29 = true))))] [.bool (decide (¬ (x29 = true)))] [.veq (.bool (!x29)) (.bool (decide (¬ (x29 = true))))] (by kernel_rfl) (not_b) ?_
  by_cases h17 : ¬ (x29 = true)
  have hf := iteT h17 hf
  refine RW.seg hT 11 [] [(15, .bool true)] [.bool true, undef, undef, undef, undef, .bool true, .bool true, undef, undef, undef, .bool true] [.veq (.bool (decide (¬ (x29 = true)))) (.bool true)] (by kernel_rfl) (bo_t h17) ?_
  refine RW.nil ?_
  exact fun X h => kc (by kernel_rfl) rfl (h I32 true _ hf s kk e4 e1 e2 e3)
  have hf := iteF h17 hf
  refine RW.seg hT 2 [.agg #[.bool p0.Leaf, .slice A1 p0.Pairs.length u1, .slice A2 p0.Keys.length u2, .slice A3 p0.Kids.length u3]] [(15, .bool false)] [.bool false, .agg #[.bool p0.Leaf, .slice A1 p0.Pairs.length u1, .slice A2 p0.Keys.length u2, .slice A3 p0.Kids.length u3]] [.veq (.bool (decide (¬ (x29 = true)))) (.bool false), .cells ⟨b1, 0, none⟩ [.bool p0.Leaf, .slice A1 p0.Pairs.length u1, .slice A2 p0.Keys.length u2, .slice A3 p0.Kids.length u3] 4] (by kernel_rfl) (⟨bo_f h17, s.cells (i := 0) rfl rfl rfl⟩) ?_
  refine RW.op (by kernel_rfl) (OK.new hT (f := fun b => .slice (some ⟨b, 0, none⟩) 1 1) (cs := [.bool p0.Leaf, .slice A1 p0.Pairs.length u1, .slice A2 p0.Keys.length u2, .slice A3 p0.Kids.length u3]) (e := 26) (c := .tt) s (by kernel_rfl) trivial ?_)
  clear s
  rintro w66 b18 s k68 -
  replace e1 := e1.st k68
  replace e2 := e2.st k68
  replace e3 := e3.st k68
  replace e4 := e4.st k68
  replace kk := kk.trans k68
  have rp17 : RepL rp_T_api_Node I32 w66 [.bool p0.Leaf, .slice A1 p0.Pairs.length u1, .slice A2 p0.Keys.length u2, .slice A3 p0.Kids.length u3] ([p0] : List T_api_Node) := RepL.cons (c := [.bool p0.Leaf, .slice A1 p0.Pairs.length u1, .slice A2 p0.Keys.length u2, .slice A3 p0.Kids.length u3]) (d := []) (⟨[.bool p0.Leaf], [.slice A1 p0.Pairs.length u1, .slice A2 p0.Keys.length u2, .slice A3 p0.Kids.length u3], rfl, rfl, ⟨[.slice A1 p0.Pairs.length u1], [.slice A2 p0.Keys.length u2, .slice A3 p0.Kids.length u3], rfl, ⟨_, _, rfl, hc1.1, hc1.2, e1⟩, ⟨[.slice A2 p0.Keys.length u2], [.slice A3 p0.Kids.length u3], rfl, ⟨_, _, rfl, hc2.1, hc2.2, e2⟩, ⟨_, _, rfl, hc3.1, hc3.2, e3⟩⟩⟩⟩) (RepL.nil)
  replace s : St w1 M I32 ((.sl (.slice (some ⟨b18, 0, none⟩) 1 1) 26 4 1 [.bool p0.Leaf, .slice A1 p0.Pairs.length u1, .slice A2 p0.Keys.length u2, .slice A3 p0.Kids.length u3]) :: (.blk b1 (.cells #[.bool p0.Leaf, .slice A1 p0.Pairs.length u1, .slice A2 p0.Keys.length u2, .slice A3 p0.Kids.length u3] 26 (0, 0))) :: F) w66 := s.blkSl (i := 0) (n := 1) (c := 1) (size := 4) rfl rfl (Nat.le_refl _) (by decide)
  have sa3 := s
  obtain ⟨hc23, e23⟩ := St.lend s (i := 0) rfl rfl rp17
  have k69 := Kp.shut (I := I32) (w := w66) (p := .sl (.slice (some ⟨b18, 0, none⟩) 1 1) 26 4 1 [.bool p0.Leaf, .slice A1 p0.Pairs.length u1, .slice A2 p0.Keys.length u2, .slice A3 p0.Kids.length u3])
  replace s := s.shut 0 rfl
  obtain ⟨x30, hx21, hf⟩ := bindS hf
  refine RW.op (by kernel_rfl) (OK.call' en12 (by kernel_rfl) (c12 (F := (.blk b1 (.cells #[.bool p0.Leaf, .slice A1 p0.Pairs.length u1, .slice A2 p0.Keys.length u2, .slice A3 p0.Kids.length u3] 26 (0, 0))) :: F) ([p0] : List T_api_Node) (some ⟨b18, 0, none⟩) 1 hc23 e23 s hx21) ?_)
  intro X23 hX23
  refine fun _ _ hJ => hJ X23 ?_
  clear s
  intro I33 w67 s k70
  refine hX23 _ _ ?_
  have s' := St.back sa3 (i := 0) rfl s k70
  replace k70 := Kp.back sa3 (i := 0) rfl k70
  replace s := s'; clear s'
  obtain ⟨I34, s, k70⟩ : ∃ I : Nat → Prop, St w1 M I ((.sl (.slice (some ⟨b18, 0, none⟩) 1 1) 26 4 1 [.bool p0.Leaf, .slice A1 p0.Pairs.length u1, .slice A2 p0.Keys.length u2, .slice A3 p0.Kids.length u3]) :: (.blk b1 (.cells #[.bool p0.Leaf, .slice A1 p0.Pairs.length u1, .slice A2 p0.Keys.length u2, .slice A3 p0.Kids.length u3] 26 (0, 0))) :: F) w67 ∧ Kp _ _ I _ := ⟨_, s, k70⟩
  replace e1 := e1.st k70
  replace e2 := e2.st k70
  replace e3 := e3.st k70
  replace e4 := e4.st k70
  replace rp17 := rp17.st k70
  replace kk := kk.trans k70
  refine RW.seg hT 2 [] [(19, .bool (decide (¬ (x30 = true))))] [.bool (decide (¬ (x30 = true))), .bool (decide (¬ (x30 = true)))] [.veq (.bool (!x30)) (.bool (decide (¬ (x30 = true))))] (by kernel_rfl) (not_b) ?_
  by_cases h18 : ¬ (x30 = true)
  have hf := iteT h18 hf
  refine RW.seg hT 5 [] [(21, .bool true)] [.bool true, undef, undef, undef, .bool true] [.veq (.bool (decide (¬ (x30 = true)))) (.bool true)] (by kernel_rfl) (bo_t h18) ?_
  refine RW.nil ?_
  replace s := s.pick [1] 2 rfl
  exact fun X h => kc (by kernel_rfl) rfl (h I34 true _ hf s kk e4 e1 e2 e3)
  have hf := iteF h18 hf
  refine RW.seg hT 5 [] [(21, .bool false)] [.bool false, .slice A4 p1.length u4, .int .i64 (p1.length : Int), .bool (decide ((p1.length : Int) > 300)), .bool (decide ((p1.length : Int) > 300))] [.veq (.bool (decide (¬ (x30 = true)))) (.bool false)] (by kernel_rfl) (bo_f h18) ?_
  refine RW.nil ?_
  replace s := s.pick [1] 2 rfl
  exact fun X h => kc (by kernel_rfl) rfl (h I34 (decide ((p1.length : Int) > 300)) _ hf s kk e4 e1 e2 e3)
end Go.Proofs.Ytefjbhogpgihaaa
