/- PRINTED BY sy.py: each call computes what the plain function of its number tells. -/
import Derived.Test.YtefjbhogpgihaaaW3
namespace Go.Proofs.Ytefjbhogpgihaaa
open Go Go.SX Go.RowKit
set_option maxRecDepth 100000
set_option linter.unusedVariables false
attribute [local irreducible] WPK RW RD Ret SX.Fin SX.Any opK RoundBeg RoundEnd RangeEnd Rounds
theorem c18 {w1 w : World} {M I : Nat → Prop} {F : List It} (p0 : T_api_Node) (A1 : Option Addr) (u1 : Nat) (A2 : Option Addr) (u2 : Nat) (A3 : Option Addr) (u3 : Nat) (hc1 : (p0.Pairs.length ≤ u1 ∧ u1 ≤ 9223372036854775807)) (e1 : Elems rp_T_api_Pair I w A1 p0.Pairs) (hc2 : (p0.Keys.length ≤ u2 ∧ u2 ≤ 9223372036854775807)) (e2 : Elems (Rp.slice (Rp.int .u8)) I w A2 p0.Keys) (hc3 : (p0.Kids.length ≤ u3 ∧ u3 ≤ 9223372036854775807)) (e3 : Elems (Rp.int .i64) I w A3 p0.Kids) (s : St w1 M I (F) w) {r : Bool} (hf : g18 p0 = some r) :
   Ret Try.prog 18 [.agg #[.bool p0.Leaf, .slice A1 p0.Pairs.length u1, .slice A2 p0.Keys.length u2, .slice A3 p0.Kids.length u3]] w fun v wz => ∀ X : Value → World → Prop, (∀ (I' : Nat → Prop) (w' : World), St w1 M I' (F) w' → Kp I w I' w' → X (.bool r) w') → X v wz := by
 have kk : Kp I w I w := Kp.refl
 unfold g18 at hf
 refine Ret.of Try.func18 rfl ?_
 refine WPK.seq ?_
 refine WPK.region ?_
 refine RW.op (by kernel_rfl) (OK.new hT (f := fun b => .pointer (some ⟨b, 0, none⟩)) (cs := [.bool p0.Leaf, .slice A1 p0.Pairs.length u1, .slice A2 p0.Keys.length u2, .slice A3 p0.Kids.length u3]) (e := 26) (c := .tt) s (by kernel_rfl) trivial ?_)
 clear s
 rintro w2 b1 s k1 -
 replace e1 := e1.st k1
 replace e2 := e2.st k1
 replace e3 := e3.st k1
 replace kk := kk.trans k1
 refine RW.seg hT 1 [] [] [.bool false] [] (by kernel_rfl) (trivial) ?_
 refine RW.nil ?_
 refine WPK.seq ?_
 refine WPK.seq ?_
 refine WPK.region ?_
 refine RW.seg hT 2 [.bool p0.Leaf] [] [.pointer (some ⟨b1, 0, none⟩), .bool p0.Leaf] [.cell ⟨b1, 0, none⟩ (.bool p0.Leaf)] (by kernel_rfl) (s.cell (i := 0) (off := 0) rfl rfl) ?_
 refine RW.nil ?_
 by_cases h1 : p0.Leaf = true
 have hf := iteT h1 hf
 refine WPK.condT (Eq.trans (b := .bool p0.Leaf) (by kernel_rfl) (b_t h1)) ?_
 refine WPK.seq ?_
 refine WPK.seq ?_
 refine WPK.cut' (Kn fun D1 ds wz => ∀ X : Kont, (∀ (x1 : Bool), g18_j1 p0 x1 = some r → X [(gd D1 0), .pointer (some ⟨b1, 0, none⟩), .bool false, undef, undef, undef, (gd D1 6), (gd D1 7), (gd D1 8), (gd D1 9), (gd D1 10), (gd D1 11), (gd D1 12), (gd D1 13), (gd D1 14), (gd D1 15), (gd D1 16), (gd D1 17), (gd D1 18), (gd D1 19), (gd D1 20), .bool x1, undef, undef, undef, undef, undef, undef, undef, undef, undef, undef, undef, undef, undef, undef, undef, undef, undef, undef, undef, undef, undef, undef, undef, undef, undef, undef, undef, undef, undef, undef, undef, undef, undef, undef, undef, undef, undef, undef, undef, undef, undef, undef, undef, undef, undef, undef, undef, undef, undef, undef, undef, undef, undef, undef, undef, undef, undef, undef, undef, undef, undef, undef, undef, undef, undef, undef, undef, undef, undef, undef, undef, undef, undef, undef, undef, undef, undef, undef, undef, undef, undef, undef, undef, undef, undef, undef, undef, undef, undef, undef, undef, undef, undef, undef, undef, undef, undef, undef, undef, undef, undef, undef, undef, undef, undef, undef, undef, undef, undef, undef, undef, undef, undef, undef, undef, undef, undef, undef, undef, undef, undef] [] w2) → X D1 ds wz) ?_ ?_
 intro X1 hX1
 refine fun D1 _ _ hJ => hJ X1 ?_
 intro x1 hf
 refine hX1 _ _ _ ?_
 unfold g18_j1 at hf
 by_cases h2 : x1 = true
 have hf := iteT h2 hf
 refine WPK.condT (Eq.trans (b := .bool x1) (by kernel_rfl) (b_t h2)) ?_
 refine WPK.seq ?_
 refine WPK.region ?_
 refine RW.seg hT 1 [] [] [.bool false] [] (by kernel_rfl) (trivial) ?_
 refine RW.nil ?_
 refine WPK.ret (?_)
 obtain rfl := someS hf
 refine Fin.of (rs := [.tmp 2]) hT [] (.bool false) [] rfl (by kernel_rfl) (trivial) ?_
 replace s := s.pick [] 1 rfl
 exact fun X h => vc rfl (h I _ s kk)
 have hf := iteF h2 hf
 refine WPK.condF (Eq.trans (b := .bool x1) (by kernel_rfl) (b_f h2)) ?_
 refine WPK.skip ?_
 refine WPK.seq ?_
 refine WPK.seq ?_
 refine WPK.region ?_
 refine RW.seg hT 1 [] [] [.int .i64 0] [] (by kernel_rfl) (trivial) ?_
 refine RW.nil ?_
 refine WPK.block ?_
 refine WPK.loop' (J := fun n1 D2 ds wz => ∀ X : Kont, (∀ (I1 : Nat → Prop) (x2 : Int) (w' : World), g18_l2 p0 n1 x2 = some r → St w1 M I1 ((.blk b1 (.cells #[.bool p0.Leaf, .slice A1 p0.Pairs.length u1, .slice A2 p0.Keys.length u2, .slice A3 p0.Kids.length u3] 26 (0, 0))) :: F) w' → Kp I w I1 w' → Elems rp_T_api_Pair I1 w' A1 p0.Pairs → Elems (Rp.slice (Rp.int .u8)) I1 w' A2 p0.Keys → Elems (Rp.int .i64) I1 w' A3 p0.Kids → X [(gd D2 0), .pointer (some ⟨b1, 0, none⟩), .bool false, .int .i64 x2, undef, undef, (gd D2 6), (gd D2 7), (gd D2 8), (gd D2 9), (gd D2 10), (gd D2 11), (gd D2 12), (gd D2 13), (gd D2 14), (gd D2 15), (gd D2 16), (gd D2 17), (gd D2 18), (gd D2 19), (gd D2 20), (gd D2 21), (gd D2 22), (gd D2 23), (gd D2 24), (gd D2 25), (gd D2 26), (gd D2 27), (gd D2 28), (gd D2 29), (gd D2 30), (gd D2 31), (gd D2 32), (gd D2 33), (gd D2 34), (gd D2 35), (gd D2 36), (gd D2 37), (gd D2 38), (gd D2 39), (gd D2 40), (gd D2 41), (gd D2 42), (gd D2 43), (gd D2 44), (gd D2 45), (gd D2 46), (gd D2 47), (gd D2 48), (gd D2 49), (gd D2 50), (gd D2 51), (gd D2 52), (gd D2 53), (gd D2 54), (gd D2 55), (gd D2 56), (gd D2 57), (gd D2 58), (gd D2 59), (gd D2 60), (gd D2 61), (gd D2 62), (gd D2 63), (gd D2 64), (gd D2 65), (gd D2 66), (gd D2 67), (gd D2 68), undef, undef, undef, undef, undef, undef, undef, undef, undef, undef, undef, undef, undef, undef, undef, undef, undef, undef, undef, undef, undef, undef, undef, undef, undef, undef, undef, undef, undef, undef, undef, undef, undef, undef, undef, undef, undef, undef, undef, undef, undef, undef, undef, undef, undef, undef, undef, undef, undef, undef, undef, undef, undef, undef, undef, undef, undef, undef, undef, undef, undef, undef, undef, undef, undef, undef, undef, undef, undef, undef, undef, undef, undef, undef] [] w') → X D2 ds wz) FUEL (fun X h => kc (by kernel_rfl) rfl (h I 0 _ hf s kk e1 e2 e3)) (fun _ _ _ hJ => hJ (fun _ _ _ => False) (by intro I1 x2 w3 hf s kk e1 e2 e3; exact noneS hf)) ?_
 intro X2 hX2
 refine fun n1 D2 _ _ hJ => hJ (X2 n1) ?_
 clear s
 intro I1 x2 w3 hf s kk e1 e2 e3
 refine hX2 _ _ _ _ ?_
 replace hf : g18_l2B p0 (g18_l2 p0 n1) x2 = some r := hf
 generalize hrec1 : g18_l2 p0 n1 = rec1 at hf
 unfold g18_l2B at hf
 refine WPK.seq ?_
 refine WPK.seq ?_
 refine WPK.region ?_
 refine RW.seg hT 5 [.slice A1 p0.Pairs.length u1] [] [.int .i64 x2, .pointer (some ⟨b1, 1, none⟩), .slice A1 p0.Pairs.length u1, .int .i64 (p0.Pairs.length : Int), .bool (decide (x2 < (p0.Pairs.length : Int)))] [.cell ⟨b1, 1, none⟩ (.slice A1 p0.Pairs.length u1)] (by kernel_rfl) (s.cell (i := 0) (off := 1) rfl rfl) ?_
 refine RW.nil ?_
 by_cases h3 : x2 < (p0.Pairs.length : Int)
 have hf := iteT h3 hf
 refine WPK.condT (Eq.trans (b := .bool (decide (x2 < (p0.Pairs.length : Int)))) (by kernel_rfl) (bo_t h3)) ?_
 refine WPK.skip ?_
 refine WPK.seq ?_
 refine WPK.block ?_
 refine WPK.seq ?_
 refine WPK.cut' (Kn fun D3 ds wz => ∀ X : Kont, (∀ (I2 : Nat → Prop) (x3 : (List T_api_Pair)) (x4 : (List Int)) (x5 : Bool) (x6 : Bool) (x7 : Bool) (x8 : Bool) (x9 : Bool) (x10 : Bool) (A4 : Option Addr) (u4 : Nat) (A5 : Option Addr) (u5 : Nat) (w' : World), g18_j3 x2 rec1 x3 x4 x5 x6 x7 x8 x9 x10 = some r → St w1 M I2 ((.blk b1 (.cells #[.bool p0.Leaf, .slice A1 p0.Pairs.length u1, .slice A2 p0.Keys.length u2, .slice A3 p0.Kids.length u3] 26 (0, 0))) :: F) w' → Kp I w I2 w' → Elems rp_T_api_Pair I2 w' A1 p0.Pairs → (x3.length ≤ u4 ∧ u4 ≤ 9223372036854775807) → Elems rp_T_api_Pair I2 w' A4 x3 → (x4.length ≤ u5 ∧ u5 ≤ 9223372036854775807) → Elems (Rp.int .u8) I2 w' A5 x4 → Elems (Rp.slice (Rp.int .u8)) I2 w' A2 p0.Keys → Elems (Rp.int .i64) I2 w' A3 p0.Kids → X [(gd D3 0), .pointer (some ⟨b1, 0, none⟩), .bool false, .int .i64 x2, undef, undef, (gd D3 6), (gd D3 7), (gd D3 8), (gd D3 9), (gd D3 10), (gd D3 11), (gd D3 12), (gd D3 13), (gd D3 14), (gd D3 15), (gd D3 16), (gd D3 17), (gd D3 18), (gd D3 19), (gd D3 20), (gd D3 21), .int .i64 x2, .pointer (some ⟨b1, 1, none⟩), .slice A1 p0.Pairs.length u1, .int .i64 (p0.Pairs.length : Int), .bool (decide (x2 < (p0.Pairs.length : Int))), (gd D2 27), (gd D2 28), .pointer (some ⟨b1, 1, none⟩), .slice A4 x3.length u4, .int .i64 x2, (gd D3 32), (gd D3 33), .slice A5 x4.length u5, .bool x5, .bool x6, .bool x7, (gd D3 38), (gd D3 39), (gd D3 40), (gd D3 41), (gd D3 42), (gd D3 43), (gd D3 44), (gd D3 45), .bool x8, .bool x9, (gd D3 48), (gd D3 49), (gd D3 50), (gd D3 51), (gd D3 52), (gd D3 53), (gd D3 54), (gd D3 55), (gd D3 56), (gd D3 57), (gd D3 58), (gd D3 59), (gd D3 60), (gd D3 61), (gd D3 62), (gd D3 63), (gd D3 64), (gd D3 65), (gd D3 66), (gd D3 67), .bool x10, undef, undef, undef, undef, undef, undef, undef, undef, undef, undef, undef, undef, undef, undef, undef, undef, undef, undef, undef, undef, undef, undef, undef, undef, undef, undef, undef, undef, undef, undef, undef, undef, undef, undef, undef, undef, undef, undef, undef, undef, undef, undef, undef, undef, undef, undef, undef, undef, undef, undef, undef, undef, undef, undef, undef, undef, undef, undef, undef, undef, undef, undef, undef, undef, undef, undef, undef, undef, undef, undef, undef, undef, undef, undef] [] w') → X D3 ds wz) ?_ ?_
 intro X3 hX3
 refine fun D3 _ _ hJ => hJ X3 ?_
 clear s
 intro I2 x3 x4 x5 x6 x7 x8 x9 x10 A4 u4 A5 u5 w4 hf s kk e1 hc4 e4 hc5 e5 e2 e3
 refine hX3 _ _ _ ?_
 unfold g18_j3 at hf
 by_cases h4 : x10 = true
 have hf := iteT h4 hf
 refine WPK.condT (Eq.trans (b := .bool x10) (by kernel_rfl) (b_t h4)) ?_
 refine WPK.seq ?_
 refine WPK.region ?_
 refine RW.seg hT 1 [] [] [.bool false] [] (by kernel_rfl) (trivial) ?_
 refine RW.nil ?_
 refine WPK.ret (blockQ.ret (blockQ.ret (?_)))
 obtain rfl := someS hf
 refine Fin.of (rs := [.tmp 2]) hT [] (.bool false) [] rfl (by kernel_rfl) (trivial) ?_
 replace s := s.pick [] 1 rfl
 exact fun X h => vc rfl (h I2 _ s kk)
 have hf := iteF h4 hf
 refine WPK.condF (Eq.trans (b := .bool x10) (by kernel_rfl) (b_f h4)) ?_
 refine WPK.skip ?_
 refine WPK.region ?_
 refine RW.seg hT 3 [] [] [.int .i64 x2, .int .i64 (IntKind.i64.wrap (x2 + 1)), .int .i64 (IntKind.i64.wrap (x2 + 1))] [] (by kernel_rfl) (trivial) ?_
 refine RW.nil ?_
 subst hrec1
 exact ⟨n1, Nat.le_refl _, fun X h => kc (by kernel_rfl) rfl (h I2 (IntKind.i64.wrap (x2 + 1)) _ hf s kk e1 e2 e3)⟩
 have e1S1 := e1
 have e2S1 := e2
 have e3S1 := e3
 have kS1 : Kp I1 w3 I1 w3 := Kp.refl
 refine WPK.drawM (fun w' => ∃ I' : Nat → Prop, St w1 M I' ((.blk b1 (.cells #[.bool p0.Leaf, .slice A1 p0.Pairs.length u1, .slice A2 p0.Keys.length u2, .slice A3 p0.Kids.length u3] 26 (0, 0))) :: F) w' ∧ Kp I1 w3 I' w') 40 [0, 1, 0, 7, 15, 31, 63, 127, 255, 511, 1023, 511, 4095, 8191, 16383, 32767, 65535, 131071, 262143, 524287, 1048575, 2097151, 4194303, 8388607, 4194303, 20971519, 67108863, 134217727, 268435455, 536870911, 4194303, 1077936127, 4194303, 7520387071, 16110321663, 33290190847, 67649929215, 137438953471, 274877906943, 549755813887] (by kernel_rfl) (by kernel_rfl) ?_
 intro ht1 w5 hd1
 have k2 := Kp.dr s hd1
 replace s := s.dr hd1
 replace e1 := e1.st k2
 replace e2 := e2.st k2
 replace e3 := e3.st k2
 replace kk := kk.trans k2
 replace kS1 := kS1.trans k2
 obtain ⟨x11, hx1, hf⟩ := bindS hf
 obtain ⟨h5, hx1⟩ := getS hx1
 obtain ⟨b2, o1, rfl⟩ := Elems.opn e1 hx1
 obtain ⟨cs1, hr1, ha1, hb1⟩ := Elems.getI e1S1 hx1
 obtain ⟨cs2, cs3, rfl, hr2, hr3⟩ := hr1
 obtain ⟨A6, u6, rfl, q1, q2, e6⟩ := hr2
 have hc6 := And.intro q1 q2
 obtain ⟨A7, u7, rfl, q3, q4, e7⟩ := hr3
 have hc7 := And.intro q3 q4
 have e6S1 := e6
 replace e6 := e6.st kS1
 have e7S1 := e7
 replace e7 := e7.st kS1
 refine RD.segM hT ht1 (by kernel_rfl) [0, 1, 2, 3, 4, 5] [.slice (some ⟨b2, o1, none⟩) p0.Pairs.length u1, .slice A6 x11.Key.length u6] [] [.pointer (some ⟨b1, 1, none⟩), .slice (some ⟨b2, o1, none⟩) p0.Pairs.length u1, .int .i64 x2, .pointer (some ⟨b2, o1 + x2.toNat * 2, none⟩), .pointer (some ⟨b2, o1 + x2.toNat * 2, none⟩), .slice A6 x11.Key.length u6] [.cell ⟨b1, 1, none⟩ (.slice (some ⟨b2, o1, none⟩) p0.Pairs.length u1), .idx x2 p0.Pairs.length, .cell ⟨b2, o1 + x2.toNat * 2, none⟩ (.slice A6 x11.Key.length u6)] (by kernel_rfl) (by rintro w' ⟨I', s, k⟩; have e1 := e1S1.st k; have e2 := e2S1.st k; have e3 := e3S1.st k; have e6 := e6S1.st k; have e7 := e7S1.st k; have ha1 := ha1.st k hb1; exact ⟨s.cell (i := 0) (off := 1) rfl rfl, h5, ha1 0 _ rfl⟩) ⟨_, s.pick [0] 1 rfl, kS1⟩ ?_
 obtain ⟨x12, hx2, hf⟩ := bindS hf
 refine RD.op (i := 6) rfl (by kernel_rfl) (by kernel_rfl) (OK.call' en54 (by kernel_rfl) (c54 (F := (.blk b1 (.cells #[.bool p0.Leaf, .slice (some ⟨b2, o1, none⟩) p0.Pairs.length u1, .slice A2 p0.Keys.length u2, .slice A3 p0.Kids.length u3] 26 (0, 0))) :: F) x11.Key A6 u6 hc6 e6 s hx2) ?_)
 intro X4 hX4
 refine fun _ _ hJ => hJ X4 ?_
 clear s
 intro I3 w6 s k3
 refine hX4 _ _ ?_
 replace e1 := e1.st k3
 replace e6 := e6.st k3
 replace e2 := e2.st k3
 replace e3 := e3.st k3
 replace kk := kk.trans k3
 replace kS1 := kS1.trans k3
 refine ⟨fun _ => ⟨_, s.pick [0] 1 rfl, kS1⟩, RD.fold ?_⟩
 refine RD.segM hT ht1 (by kernel_rfl) [7] [] [(36, .bool (decide (¬ (x12 = true))))] [.bool (decide (¬ (x12 = true)))] [.veq (.bool (!x12)) (.bool (decide (¬ (x12 = true))))] (by kernel_rfl) (by rintro w' ⟨I', s, k⟩; have e1 := e1S1.st k; have e2 := e2S1.st k; have e3 := e3S1.st k; have e6 := e6S1.st k; have e7 := e7S1.st k; exact not_b) ⟨_, s.pick [0] 1 rfl, kS1⟩ ?_
 by_cases h6 : ¬ (x12 = true)
 have hf := iteT h6 hf
 refine RD.segM hT ht1 (by kernel_rfl) [8, 9, 10, 11, 12, 13, 14, 15, 16, 17, 18, 19, 20, 21, 22, 23, 24, 25, 26, 27, 28, 29, 30, 31, 32, 33, 34, 35, 36, 37, 38, 39] [] [(37, .bool true)] [.bool true, undef, undef, undef, undef, undef, undef, undef, undef, .bool true, .bool true, undef, undef, undef, undef, undef, undef, undef, undef, undef, undef, undef, undef, undef, undef, undef, undef, undef, undef, undef, undef, .bool true] [.veq (.bool (decide (¬ (x12 = true)))) (.bool true)] (by kernel_rfl) (by rintro w' ⟨I', s, k⟩; have e1 := e1S1.st k; have e2 := e2S1.st k; have e3 := e3S1.st k; have e6 := e6S1.st k; have e7 := e7S1.st k; exact bo_t h6) ⟨_, s.pick [0] 1 rfl, kS1⟩ ?_
 refine RD.done (by kernel_rfl) ?_
 exact fun X h => kc (by kernel_rfl) rfl (h I3 p0.Pairs x11.Key x12 (decide (¬ (x12 = true))) true true true true (some ⟨b2, o1, none⟩) u1 A6 u6 _ hf s kk e1 hc1 e1 hc6 e6 e2 e3)
 have hf := iteF h6 hf
 obtain ⟨x13, hx3, hf⟩ := bindS hf
 obtain ⟨h7, hx3⟩ := getS hx3
 obtain ⟨cs4, hr4, ha2, hb2⟩ := Elems.getI e1S1 hx3
 obtain ⟨cs5, cs6, rfl, hr5, hr6⟩ := hr4
 obtain ⟨A8, u8, rfl, q5, q6, e8⟩ := hr5
 have hc8 := And.intro q5 q6
 obtain ⟨A9, u9, rfl, q7, q8, e9⟩ := hr6
 have hc9 := And.intro q7 q8
 have e8S1 := e8
 replace e8 := e8.st kS1
 have e9S1 := e9
 replace e9 := e9.st kS1
 refine RD.segM hT ht1 (by kernel_rfl) [8, 9, 10, 11, 12, 13, 14, 15, 16, 17] [.slice (some ⟨b2, o1, none⟩) p0.Pairs.length u1, .slice A9 x13.Val.length u9] [(37, .bool false)] [.bool false, .pointer (some ⟨b1, 1, none⟩), .slice (some ⟨b2, o1, none⟩) p0.Pairs.length u1, .int .i64 x2, .pointer (some ⟨b2, o1 + x2.toNat * 2, none⟩), .pointer (some ⟨b2, o1 + x2.toNat * 2 + 1, none⟩), .slice A9 x13.Val.length u9, .int .i64 (x13.Val.length : Int), .bool (decide ((x13.Val.length : Int) > 24)), .bool (decide ((x13.Val.length : Int) > 24))] [.veq (.bool (decide (¬ (x12 = true)))) (.bool false), .cell ⟨b1, 1, none⟩ (.slice (some ⟨b2, o1, none⟩) p0.Pairs.length u1), .idx x2 p0.Pairs.length, .cell ⟨b2, o1 + x2.toNat * 2 + 1, none⟩ (.slice A9 x13.Val.length u9)] (by kernel_rfl) (by rintro w' ⟨I', s, k⟩; have e1 := e1S1.st k; have e2 := e2S1.st k; have e3 := e3S1.st k; have e6 := e6S1.st k; have e7 := e7S1.st k; have e8 := e8S1.st k; have e9 := e9S1.st k; have ha2 := ha2.st k hb2; exact ⟨bo_f h6, s.cell (i := 0) (off := 1) rfl rfl, h7, ha2 1 _ rfl⟩) ⟨_, s.pick [0] 1 rfl, kS1⟩ ?_
 by_cases h8 : (x13.Val.length : Int) > 24
 have hf := iteT h8 hf
 refine RD.segM hT ht1 (by kernel_rfl) [18, 19, 20, 21, 22, 23, 24, 25, 26, 27, 28, 29, 30, 31, 32, 33, 34, 35, 36, 37, 38, 39] [] [(47, .bool true)] [.bool true, undef, undef, undef, undef, undef, undef, undef, undef, undef, undef, undef, undef, undef, undef, undef, undef, undef, undef, undef, undef, .bool true] [.veq (.bool (decide ((x13.Val.length : Int) > 24))) (.bool true)] (by kernel_rfl) (by rintro w' ⟨I', s, k⟩; have e1 := e1S1.st k; have e2 := e2S1.st k; have e3 := e3S1.st k; have e6 := e6S1.st k; have e7 := e7S1.st k; have e8 := e8S1.st k; have e9 := e9S1.st k; exact bo_t h8) ⟨_, s.pick [0] 1 rfl, kS1⟩ ?_
 refine RD.done (by kernel_rfl) ?_
 exact fun X h => kc (by kernel_rfl) rfl (h I3 p0.Pairs x11.Key x12 (decide (¬ (x12 = true))) false (decide ((x13.Val.length : Int) > 24)) true true (some ⟨b2, o1, none⟩) u1 A6 u6 _ hf s kk e1 hc1 e1 hc6 e6 e2 e3)
 have hf := iteF h8 hf
 refine RD.segM hT ht1 (by kernel_rfl) [18, 19, 20] [] [(47, .bool false)] [.bool false, .int .i64 x2, .bool (decide (x2 > 0))] [.veq (.bool (decide ((x13.Val.length : Int) > 24))) (.bool false)] (by kernel_rfl) (by rintro w' ⟨I', s, k⟩; have e1 := e1S1.st k; have e2 := e2S1.st k; have e3 := e3S1.st k; have e6 := e6S1.st k; have e7 := e7S1.st k; have e8 := e8S1.st k; have e9 := e9S1.st k; exact bo_f h8) ⟨_, s.pick [0] 1 rfl, kS1⟩ ?_
 by_cases h9 : x2 > 0
 have hf := iteT h9 hf
 obtain ⟨x14, hx4, hf⟩ := bindS hf
 obtain ⟨h10, hx4⟩ := getS hx4
 obtain ⟨cs7, hr7, ha3, hb3⟩ := Elems.getI e1S1 hx4
 obtain ⟨cs8, cs9, rfl, hr8, hr9⟩ := hr7
 obtain ⟨A10, u10, rfl, q9, q10, e10⟩ := hr8
 have hc10 := And.intro q9 q10
 obtain ⟨A11, u11, rfl, q11, q12, e11⟩ := hr9
 have hc11 := And.intro q11 q12
 have e10S1 := e10
 replace e10 := e10.st kS1
 have e11S1 := e11
 replace e11 := e11.st kS1
 obtain ⟨x15, hx5, hf⟩ := bindS hf
 obtain ⟨h11, hx5⟩ := getS hx5
 obtain ⟨cs10, hr10, ha4, hb4⟩ := Elems.getI e1S1 hx5
 obtain ⟨cs11, cs12, rfl, hr11, hr12⟩ := hr10
 obtain ⟨A12, u12, rfl, q13, q14, e12⟩ := hr11
 have hc12 := And.intro q13 q14
 obtain ⟨A13, u13, rfl, q15, q16, e13⟩ := hr12
 have hc13 := And.intro q15 q16
 have e12S1 := e12
 replace e12 := e12.st kS1
 have e13S1 := e13
 replace e13 := e13.st kS1
 refine RD.segM hT ht1 (by kernel_rfl) [21, 22, 23, 24, 25, 26, 27, 28, 29, 30, 31, 32, 33, 34, 35, 36, 37, 38, 39] [.slice (some ⟨b2, o1, none⟩) p0.Pairs.length u1, .slice A10 x14.Key.length u10, .string (strOfNums x14.Key), .slice (some ⟨b2, o1, none⟩) p0.Pairs.length u1, .slice A12 x15.Key.length u12, .string (strOfNums x15.Key)] [(50, .bool true)] [.bool true, .pointer (some ⟨b1, 1, none⟩), .slice (some ⟨b2, o1, none⟩) p0.Pairs.length u1, .int .i64 x2, .int .i64 (IntKind.i64.wrap (x2 - 1)), .pointer (some ⟨b2, o1 + (IntKind.i64.wrap (x2 - 1)).toNat * 2, none⟩), .pointer (some ⟨b2, o1 + (IntKind.i64.wrap (x2 - 1)).toNat * 2, none⟩), .slice A10 x14.Key.length u10, .string (strOfNums x14.Key), .pointer (some ⟨b1, 1, none⟩), .slice (some ⟨b2, o1, none⟩) p0.Pairs.length u1, .int .i64 x2, .pointer (some ⟨b2, o1 + x2.toNat * 2, none⟩), .pointer (some ⟨b2, o1 + x2.toNat * 2, none⟩), .slice A12 x15.Key.length u12, .string (strOfNums x15.Key), .bool (!(Op.bytesLess (strOfNums x14.Key).toList (strOfNums x15.Key).toList)), .bool (!(Op.bytesLess (strOfNums x14.Key).toList (strOfNums x15.Key).toList)), .bool (!(Op.bytesLess (strOfNums x14.Key).toList (strOfNums x15.Key).toList))] [.veq (.bool (decide (x2 > 0))) (.bool true), .cell ⟨b1, 1, none⟩ (.slice (some ⟨b2, o1, none⟩) p0.Pairs.length u1), .idx (IntKind.i64.wrap (x2 - 1)) p0.Pairs.length, .cell ⟨b2, o1 + (IntKind.i64.wrap (x2 - 1)).toNat * 2, none⟩ (.slice A10 x14.Key.length u10), .bytes A10 x14.Key.length (strOfNums x14.Key), .cell ⟨b1, 1, none⟩ (.slice (some ⟨b2, o1, none⟩) p0.Pairs.length u1), .idx x2 p0.Pairs.length, .cell ⟨b2, o1 + x2.toNat * 2, none⟩ (.slice A12 x15.Key.length u12), .bytes A12 x15.Key.length (strOfNums x15.Key)] (by kernel_rfl) (by rintro w' ⟨I', s, k⟩; have e1 := e1S1.st k; have e2 := e2S1.st k; have e3 := e3S1.st k; have e6 := e6S1.st k; have e7 := e7S1.st k; have e8 := e8S1.st k; have e9 := e9S1.st k; have e10 := e10S1.st k; have e11 := e11S1.st k; have e12 := e12S1.st k; have e13 := e13S1.st k; have ha3 := ha3.st k hb3; have ha4 := ha4.st k hb4; exact ⟨bo_t h9, s.cell (i := 0) (off := 1) rfl rfl, h10, ha3 0 _ rfl, Elems.bytes e10, s.cell (i := 0) (off := 1) rfl rfl, h11, ha4 0 _ rfl, Elems.bytes e12⟩) ⟨_, s.pick [0] 1 rfl, kS1⟩ ?_
 refine RD.done (by kernel_rfl) ?_
 exact fun X h => kc (by kernel_rfl) rfl (h I3 p0.Pairs x11.Key x12 (decide (¬ (x12 = true))) false (decide ((x13.Val.length : Int) > 24)) false (!(Op.bytesLess (strOfNums x14.Key).toList (strOfNums x15.Key).toList)) (some ⟨b2, o1, none⟩) u1 A6 u6 _ hf s kk e1 hc1 e1 hc6 e6 e2 e3)
 have hf := iteF h9 hf
 refine RD.segM hT ht1 (by kernel_rfl) [21, 22, 23, 24, 25, 26, 27, 28, 29, 30, 31, 32, 33, 34, 35, 36, 37, 38, 39] [] [(50, .bool false)] [.bool false, undef, undef, undef, undef, undef, undef, undef, undef, undef, undef, undef, undef, undef, undef, undef, undef, .bool false, .bool false] [.veq (.bool (decide (x2 > 0))) (.bool false)] (by kernel_rfl) (by rintro w' ⟨I', s, k⟩; have e1 := e1S1.st k; have e2 := e2S1.st k; have e3 := e3S1.st k; have e6 := e6S1.st k; have e7 := e7S1.st k; have e8 := e8S1.st k; have e9 := e9S1.st k; exact bo_f h9) ⟨_, s.pick [0] 1 rfl, kS1⟩ ?_
 refine RD.done (by kernel_rfl) ?_
 exact fun X h => kc (by kernel_rfl) rfl (h I3 p0.Pairs x11.Key x12 (decide (¬ (x12 = true))) false (decide ((x13.Val.length : Int) > 24)) false false (some ⟨b2, o1, none⟩) u1 A6 u6 _ hf s kk e1 hc1 e1 hc6 e6 e2 e3)
 have hf := iteF h3 hf
 refine WPK.condF (Eq.trans (b := .bool (decide (x2 < (p0.Pairs.length : Int)))) (by kernel_rfl) (bo_f h3)) ?_
 refine WPK.exit (blockQ.same ?_)
 refine WPK.seq ?_
 refine WPK.region ?_
 refine RW.seg hT 1 [] [] [.bool true] [] (by kernel_rfl) (trivial) ?_
 refine RW.nil ?_
 refine WPK.ret (?_)
 obtain rfl := someS hf
 refine Fin.of (rs := [.tmp 2]) hT [] (.bool true) [] rfl (by kernel_rfl) (trivial) ?_
 replace s := s.pick [] 1 rfl
 exact fun X h => vc rfl (h I1 _ s kk)
 refine WPK.region ?_
 obtain ⟨x16, hx6, hf⟩ := bindS hf
 refine RW.seg hT 8 [.slice A2 p0.Keys.length u2, .slice A3 p0.Kids.length u3] [(14, .int .i64 x16)] [.pointer (some ⟨b1, 2, none⟩), .slice A2 p0.Keys.length u2, .int .i64 (p0.Keys.length : Int), .pointer (some ⟨b1, 3, none⟩), .slice A3 p0.Kids.length u3, .int .i64 (p0.Kids.length : Int), .int .i64 x16, .bool (decide (x16 > 0))] [.cell ⟨b1, 2, none⟩ (.slice A2 p0.Keys.length u2), .cell ⟨b1, 3, none⟩ (.slice A3 p0.Kids.length u3), .veq (.int .i64 (IntKind.i64.wrap ((p0.Keys.length : Int) + (p0.Kids.length : Int)))) (.int .i64 x16)] (by kernel_rfl) (⟨s.cell (i := 0) (off := 2) rfl rfl, s.cell (i := 0) (off := 3) rfl rfl, int_v (someS hx6)⟩) ?_
 by_cases h12 : x16 > 0
 have hf := iteT h12 hf
 refine RW.seg hT 6 [] [(16, .bool true)] [.bool true, undef, undef, undef, undef, .bool true] [.veq (.bool (decide (x16 > 0))) (.bool true)] (by kernel_rfl) (bo_t h12) ?_
 refine RW.nil ?_
 exact fun X h => kc (by kernel_rfl) rfl (h true hf)
 have hf := iteF h12 hf
 refine RW.seg hT 6 [.slice A1 p0.Pairs.length u1] [(16, .bool false)] [.bool false, .pointer (some ⟨b1, 1, none⟩), .slice A1 p0.Pairs.length u1, .int .i64 (p0.Pairs.length : Int), .bool (decide ((p0.Pairs.length : Int) > 255)), .bool (decide ((p0.Pairs.length : Int) > 255))] [.veq (.bool (decide (x16 > 0))) (.bool false), .cell ⟨b1, 1, none⟩ (.slice A1 p0.Pairs.length u1)] (by kernel_rfl) (⟨bo_f h12, s.cell (i := 0) (off := 1) rfl rfl⟩) ?_
 refine RW.nil ?_
 exact fun X h => kc (by kernel_rfl) rfl (h (decide ((p0.Pairs.length : Int) > 255)) hf)
 have hf := iteF h1 hf
 refine WPK.condF (Eq.trans (b := .bool p0.Leaf) (by kernel_rfl) (b_f h1)) ?_
 refine WPK.skip ?_
 refine WPK.seq ?_
 refine WPK.seq ?_
 refine WPK.cut' (Kn fun D4 ds wz => ∀ X : Kont, (∀ (x17 : Bool), g18_j4 p0 x17 = some r → X [(gd D4 0), .pointer (some ⟨b1, 0, none⟩), .bool false, (gd D4 3), undef, undef, (gd D4 6), (gd D4 7), (gd D4 8), (gd D4 9), (gd D4 10), (gd D4 11), (gd D4 12), (gd D4 13), (gd D4 14), (gd D4 15), (gd D4 16), (gd D4 17), (gd D4 18), (gd D4 19), (gd D4 20), (gd D4 21), (gd D4 22), (gd D4 23), (gd D4 24), (gd D4 25), (gd D4 26), (gd D4 27), (gd D4 28), (gd D4 29), (gd D4 30), (gd D4 31), (gd D4 32), (gd D4 33), (gd D4 34), (gd D4 35), (gd D4 36), (gd D4 37), (gd D4 38), (gd D4 39), (gd D4 40), (gd D4 41), (gd D4 42), (gd D4 43), (gd D4 44), (gd D4 45), (gd D4 46), (gd D4 47), (gd D4 48), (gd D4 49), (gd D4 50), (gd D4 51), (gd D4 52), (gd D4 53), (gd D4 54), (gd D4 55), (gd D4 56), (gd D4 57), (gd D4 58), (gd D4 59), (gd D4 60), (gd D4 61), (gd D4 62), (gd D4 63), (gd D4 64), (gd D4 65), (gd D4 66), (gd D4 67), (gd D4 68), (gd D4 69), (gd D4 70), (gd D4 71), (gd D4 72), (gd D4 73), (gd D4 74), (gd D4 75), (gd D4 76), (gd D4 77), (gd D4 78), (gd D4 79), (gd D4 80), (gd D4 81), (gd D4 82), (gd D4 83), (gd D4 84), (gd D4 85), (gd D4 86), (gd D4 87), (gd D4 88), (gd D4 89), (gd D4 90), (gd D4 91), (gd D4 92), (gd D4 93), .bool x17, undef, undef, undef, undef, undef, undef, undef, undef, undef, undef, undef, undef, undef, undef, undef, undef, undef, undef, undef, undef, undef, undef, undef, undef, undef, undef, undef, undef, undef, undef, undef, undef, undef, undef, undef, undef, undef, undef, undef, undef, undef, undef, undef, undef, undef, undef, undef, undef] [] w2) → X D4 ds wz) ?_ ?_
 intro X5 hX5
 refine fun D4 _ _ hJ => hJ X5 ?_
 intro x17 hf
 refine hX5 _ _ _ ?_
 unfold g18_j4 at hf
 by_cases h13 : x17 = true
 have hf := iteT h13 hf
 refine WPK.condT (Eq.trans (b := .bool x17) (by kernel_rfl) (b_t h13)) ?_
 refine WPK.seq ?_
 refine WPK.region ?_
 refine RW.seg hT 1 [] [] [.bool false] [] (by kernel_rfl) (trivial) ?_
 refine RW.nil ?_
 refine WPK.ret (?_)
 obtain rfl := someS hf
 refine Fin.of (rs := [.tmp 2]) hT [] (.bool false) [] rfl (by kernel_rfl) (trivial) ?_
 replace s := s.pick [] 1 rfl
 exact fun X h => vc rfl (h I _ s kk)
 have hf := iteF h13 hf
 refine WPK.condF (Eq.trans (b := .bool x17) (by kernel_rfl) (b_f h13)) ?_
 refine WPK.skip ?_
 refine WPK.seq ?_
 refine WPK.seq ?_
 refine WPK.region ?_
 refine RW.seg hT 1 [] [] [.int .i64 0] [] (by kernel_rfl) (trivial) ?_
 refine RW.nil ?_
 refine WPK.block ?_
 refine WPK.loop' (J := fun n2 D5 ds wz => ∀ X : Kont, (∀ (I4 : Nat → Prop) (x18 : Int) (w' : World), g18_l5 p0 n2 x18 = some r → St w1 M I4 ((.blk b1 (.cells #[.bool p0.Leaf, .slice A1 p0.Pairs.length u1, .slice A2 p0.Keys.length u2, .slice A3 p0.Kids.length u3] 26 (0, 0))) :: F) w' → Kp I w I4 w' → Elems rp_T_api_Pair I4 w' A1 p0.Pairs → Elems (Rp.slice (Rp.int .u8)) I4 w' A2 p0.Keys → Elems (Rp.int .i64) I4 w' A3 p0.Kids → X [(gd D5 0), .pointer (some ⟨b1, 0, none⟩), .bool false, (gd D5 3), .int .i64 x18, undef, (gd D5 6), (gd D5 7), (gd D5 8), (gd D5 9), (gd D5 10), (gd D5 11), (gd D5 12), (gd D5 13), (gd D5 14), (gd D5 15), (gd D5 16), (gd D5 17), (gd D5 18), (gd D5 19), (gd D5 20), (gd D5 21), (gd D5 22), (gd D5 23), (gd D5 24), (gd D5 25), (gd D5 26), (gd D5 27), (gd D5 28), (gd D5 29), (gd D5 30), (gd D5 31), (gd D5 32), (gd D5 33), (gd D5 34), (gd D5 35), (gd D5 36), (gd D5 37), (gd D5 38), (gd D5 39), (gd D5 40), (gd D5 41), (gd D5 42), (gd D5 43), (gd D5 44), (gd D5 45), (gd D5 46), (gd D5 47), (gd D5 48), (gd D5 49), (gd D5 50), (gd D5 51), (gd D5 52), (gd D5 53), (gd D5 54), (gd D5 55), (gd D5 56), (gd D5 57), (gd D5 58), (gd D5 59), (gd D5 60), (gd D5 61), (gd D5 62), (gd D5 63), (gd D5 64), (gd D5 65), (gd D5 66), (gd D5 67), (gd D5 68), (gd D5 69), (gd D5 70), (gd D5 71), (gd D5 72), (gd D5 73), (gd D5 74), (gd D5 75), (gd D5 76), (gd D5 77), (gd D5 78), (gd D5 79), (gd D5 80), (gd D5 81), (gd D5 82), (gd D5 83), (gd D5 84), (gd D5 85), (gd D5 86), (gd D5 87), (gd D5 88), (gd D5 89), (gd D5 90), (gd D5 91), (gd D5 92), (gd D5 93), (gd D5 94), (gd D5 95), (gd D5 96), (gd D5 97), (gd D5 98), (gd D5 99), (gd D5 100), (gd D5 101), (gd D5 102), (gd D5 103), (gd D5 104), (gd D5 105), (gd D5 106), (gd D5 107), (gd D5 108), (gd D5 109), (gd D5 110), (gd D5 111), (gd D5 112), (gd D5 113), (gd D5 114), (gd D5 115), (gd D5 116), (gd D5 117), (gd D5 118), (gd D5 119), (gd D5 120), (gd D5 121), (gd D5 122), (gd D5 123), (gd D5 124), (gd D5 125), (gd D5 126), (gd D5 127), (gd D5 128), undef, undef, undef, undef, undef, undef, undef, undef, undef, undef, undef, undef, undef, undef] [] w') → X D5 ds wz) FUEL (fun X h => kc (by kernel_rfl) rfl (h I 0 _ hf s kk e1 e2 e3)) (fun _ _ _ hJ => hJ (fun _ _ _ => False) (by intro I4 x18 w7 hf s kk e1 e2 e3; exact noneS hf)) ?_
 intro X6 hX6
 refine fun n2 D5 _ _ hJ => hJ (X6 n2) ?_
 clear s
 intro I4 x18 w7 hf s kk e1 e2 e3
 refine hX6 _ _ _ _ ?_
 replace hf : g18_l5B p0 (g18_l5 p0 n2) x18 = some r := hf
 generalize hrec2 : g18_l5 p0 n2 = rec2 at hf
 unfold g18_l5B at hf
 refine WPK.seq ?_
 refine WPK.seq ?_
 refine WPK.region ?_
 refine RW.seg hT 5 [.slice A2 p0.Keys.length u2] [] [.int .i64 x18, .pointer (some ⟨b1, 2, none⟩), .slice A2 p0.Keys.length u2, .int .i64 (p0.Keys.length : Int), .bool (decide (x18 < (p0.Keys.length : Int)))] [.cell ⟨b1, 2, none⟩ (.slice A2 p0.Keys.length u2)] (by kernel_rfl) (s.cell (i := 0) (off := 2) rfl rfl) ?_
 refine RW.nil ?_
 by_cases h14 : x18 < (p0.Keys.length : Int)
 have hf := iteT h14 hf
 refine WPK.condT (Eq.trans (b := .bool (decide (x18 < (p0.Keys.length : Int)))) (by kernel_rfl) (bo_t h14)) ?_
 refine WPK.skip ?_
 refine WPK.seq ?_
 refine WPK.block ?_
 refine WPK.seq ?_
 have e2S2 := e2
 have e1S2 := e1
 have e3S2 := e3
 have kS2 : Kp I4 w7 I4 w7 := Kp.refl
 refine WPK.drawM (fun w' => ∃ I' : Nat → Prop, St w1 M I' ((.blk b1 (.cells #[.bool p0.Leaf, .slice A1 p0.Pairs.length u1, .slice A2 p0.Keys.length u2, .slice A3 p0.Kids.length u3] 26 (0, 0))) :: F) w' ∧ Kp I4 w7 I' w') 27 [0, 1, 0, 7, 15, 31, 63, 127, 255, 511, 1023, 2047, 4095, 2047, 10239, 32767, 65535, 131071, 2047, 264191, 2047, 1837055, 3934207, 8128511, 16777215, 33554431, 67108863] (by kernel_rfl) (by kernel_rfl) ?_
 intro ht2 w8 hd2
 have k4 := Kp.dr s hd2
 replace s := s.dr hd2
 replace e2 := e2.st k4
 replace e1 := e1.st k4
 replace e3 := e3.st k4
 replace kk := kk.trans k4
 replace kS2 := kS2.trans k4
 obtain ⟨x19, hx7, hf⟩ := bindS hf
 obtain ⟨h15, hx7⟩ := getS hx7
 obtain ⟨b3, o2, rfl⟩ := Elems.opn e2 hx7
 obtain ⟨cs13, hr13, ha5, hb5⟩ := Elems.getI e2S2 hx7
 obtain ⟨A14, u14, rfl, q17, q18, e14⟩ := hr13
 have hc14 := And.intro q17 q18
 have e14S2 := e14
 replace e14 := e14.st kS2
 refine RD.segM hT ht2 (by kernel_rfl) [0, 1, 2, 3, 4] [.slice (some ⟨b3, o2, none⟩) p0.Keys.length u2, .slice A14 x19.length u14] [] [.pointer (some ⟨b1, 2, none⟩), .slice (some ⟨b3, o2, none⟩) p0.Keys.length u2, .int .i64 x18, .pointer (some ⟨b3, o2 + x18.toNat * 1, none⟩), .slice A14 x19.length u14] [.cell ⟨b1, 2, none⟩ (.slice (some ⟨b3, o2, none⟩) p0.Keys.length u2), .idx x18 p0.Keys.length, .cell ⟨b3, o2 + x18.toNat * 1, none⟩ (.slice A14 x19.length u14)] (by kernel_rfl) (by rintro w' ⟨I', s, k⟩; have e2 := e2S2.st k; have e1 := e1S2.st k; have e3 := e3S2.st k; have e14 := e14S2.st k; have ha5 := ha5.st k hb5; exact ⟨s.cell (i := 0) (off := 2) rfl rfl, h15, ha5 0 _ rfl⟩) ⟨_, s.pick [0] 1 rfl, kS2⟩ ?_
 obtain ⟨x20, hx8, hf⟩ := bindS hf
 refine RD.op (i := 5) rfl (by kernel_rfl) (by kernel_rfl) (OK.call' en54 (by kernel_rfl) (c54 (F := (.blk b1 (.cells #[.bool p0.Leaf, .slice A1 p0.Pairs.length u1, .slice (some ⟨b3, o2, none⟩) p0.Keys.length u2, .slice A3 p0.Kids.length u3] 26 (0, 0))) :: F) x19 A14 u14 hc14 e14 s hx8) ?_)
 intro X7 hX7
 refine fun _ _ hJ => hJ X7 ?_
 clear s
 intro I5 w9 s k5
 refine hX7 _ _ ?_
 replace e2 := e2.st k5
 replace e14 := e14.st k5
 replace e1 := e1.st k5
 replace e3 := e3.st k5
 replace kk := kk.trans k5
 replace kS2 := kS2.trans k5
 refine ⟨fun _ => ⟨_, s.pick [0] 1 rfl, kS2⟩, RD.fold ?_⟩
 refine RD.segM hT ht2 (by kernel_rfl) [6] [] [(108, .bool (decide (¬ (x20 = true))))] [.bool (decide (¬ (x20 = true)))] [.veq (.bool (!x20)) (.bool (decide (¬ (x20 = true))))] (by kernel_rfl) (by rintro w' ⟨I', s, k⟩; have e2 := e2S2.st k; have e1 := e1S2.st k; have e3 := e3S2.st k; have e14 := e14S2.st k; exact not_b) ⟨_, s.pick [0] 1 rfl, kS2⟩ ?_
 by_cases h16 : ¬ (x20 = true)
 have hf := iteT h16 hf
 refine RD.segM hT ht2 (by kernel_rfl) [7, 8, 9, 10, 11, 12, 13, 14, 15, 16, 17, 18, 19, 20, 21, 22, 23, 24, 25, 26] [] [(109, .bool true)] [.bool true, undef, undef, undef, undef, undef, undef, undef, undef, undef, undef, undef, undef, undef, undef, undef, undef, undef, undef, .bool true] [.veq (.bool (decide (¬ (x20 = true)))) (.bool true)] (by kernel_rfl) (by rintro w' ⟨I', s, k⟩; have e2 := e2S2.st k; have e1 := e1S2.st k; have e3 := e3S2.st k; have e14 := e14S2.st k; exact bo_t h16) ⟨_, s.pick [0] 1 rfl, kS2⟩ ?_
 refine RD.done (by kernel_rfl) ?_
 refine WPK.condT (by kernel_rfl) ?_
 refine WPK.seq ?_
 refine WPK.region ?_
 refine RW.seg hT 1 [] [] [.bool false] [] (by kernel_rfl) (trivial) ?_
 refine RW.nil ?_
 refine WPK.ret (blockQ.ret (blockQ.ret (?_)))
 obtain rfl := someS hf
 refine Fin.of (rs := [.tmp 2]) hT [] (.bool false) [] rfl (by kernel_rfl) (trivial) ?_
 replace s := s.pick [] 1 rfl
 exact fun X h => vc rfl (h I5 _ s kk)
 have hf := iteF h16 hf
 refine RD.segM hT ht2 (by kernel_rfl) [7, 8, 9] [] [(109, .bool false)] [.bool false, .int .i64 x18, .bool (decide (x18 > 0))] [.veq (.bool (decide (¬ (x20 = true)))) (.bool false)] (by kernel_rfl) (by rintro w' ⟨I', s, k⟩; have e2 := e2S2.st k; have e1 := e1S2.st k; have e3 := e3S2.st k; have e14 := e14S2.st k; exact bo_f h16) ⟨_, s.pick [0] 1 rfl, kS2⟩ ?_
 by_cases h17 : x18 > 0
 have hf := iteT h17 hf
 obtain ⟨x21, hx9, hf⟩ := bindS hf
 obtain ⟨h18, hx9⟩ := getS hx9
 obtain ⟨cs14, hr14, ha6, hb6⟩ := Elems.getI e2S2 hx9
 obtain ⟨A15, u15, rfl, q19, q20, e15⟩ := hr14
 have hc15 := And.intro q19 q20
 have e15S2 := e15
 replace e15 := e15.st kS2
 obtain ⟨x22, hx10, hf⟩ := bindS hf
 obtain ⟨h19, hx10⟩ := getS hx10
 obtain ⟨cs15, hr15, ha7, hb7⟩ := Elems.getI e2S2 hx10
 obtain ⟨A16, u16, rfl, q21, q22, e16⟩ := hr15
 have hc16 := And.intro q21 q22
 have e16S2 := e16
 replace e16 := e16.st kS2
 refine RD.segM hT ht2 (by kernel_rfl) [10, 11, 12, 13, 14, 15, 16, 17, 18, 19, 20, 21, 22, 23, 24, 25, 26] [.slice (some ⟨b3, o2, none⟩) p0.Keys.length u2, .slice A15 x21.length u15, .string (strOfNums x21), .slice (some ⟨b3, o2, none⟩) p0.Keys.length u2, .slice A16 x22.length u16, .string (strOfNums x22)] [(112, .bool true)] [.bool true, .pointer (some ⟨b1, 2, none⟩), .slice (some ⟨b3, o2, none⟩) p0.Keys.length u2, .int .i64 x18, .int .i64 (IntKind.i64.wrap (x18 - 1)), .pointer (some ⟨b3, o2 + (IntKind.i64.wrap (x18 - 1)).toNat * 1, none⟩), .slice A15 x21.length u15, .string (strOfNums x21), .pointer (some ⟨b1, 2, none⟩), .slice (some ⟨b3, o2, none⟩) p0.Keys.length u2, .int .i64 x18, .pointer (some ⟨b3, o2 + x18.toNat * 1, none⟩), .slice A16 x22.length u16, .string (strOfNums x22), .bool (!(Op.bytesLess (strOfNums x21).toList (strOfNums x22).toList)), .bool (!(Op.bytesLess (strOfNums x21).toList (strOfNums x22).toList)), .bool (!(Op.bytesLess (strOfNums x21).toList (strOfNums x22).toList))] [.veq (.bool (decide (x18 > 0))) (.bool true), .cell ⟨b1, 2, none⟩ (.slice (some ⟨b3, o2, none⟩) p0.Keys.length u2), .idx (IntKind.i64.wrap (x18 - 1)) p0.Keys.length, .cell ⟨b3, o2 + (IntKind.i64.wrap (x18 - 1)).toNat * 1, none⟩ (.slice A15 x21.length u15), .bytes A15 x21.length (strOfNums x21), .cell ⟨b1, 2, none⟩ (.slice (some ⟨b3, o2, none⟩) p0.Keys.length u2), .idx x18 p0.Keys.length, .cell ⟨b3, o2 + x18.toNat * 1, none⟩ (.slice A16 x22.length u16), .bytes A16 x22.length (strOfNums x22)] (by kernel_rfl) (by rintro w' ⟨I', s, k⟩; have e2 := e2S2.st k; have e1 := e1S2.st k; have e3 := e3S2.st k; have e14 := e14S2.st k; have e15 := e15S2.st k; have e16 := e16S2.st k; have ha6 := ha6.st k hb6; have ha7 := ha7.st k hb7; exact ⟨bo_t h17, s.cell (i := 0) (off := 2) rfl rfl, h18, ha6 0 _ rfl, Elems.bytes e15, s.cell (i := 0) (off := 2) rfl rfl, h19, ha7 0 _ rfl, Elems.bytes e16⟩) ⟨_, s.pick [0] 1 rfl, kS2⟩ ?_
 refine RD.done (by kernel_rfl) ?_
 by_cases h20 : (!(Op.bytesLess (strOfNums x21).toList (strOfNums x22).toList)) = true
 have hf := iteT h20 hf
 refine WPK.condT (Eq.trans (b := .bool (!(Op.bytesLess (strOfNums x21).toList (strOfNums x22).toList))) (by kernel_rfl) (b_t h20)) ?_
 refine WPK.seq ?_
 refine WPK.region ?_
 refine RW.seg hT 1 [] [] [.bool false] [] (by kernel_rfl) (trivial) ?_
 refine RW.nil ?_
 refine WPK.ret (blockQ.ret (blockQ.ret (?_)))
 obtain rfl := someS hf
 refine Fin.of (rs := [.tmp 2]) hT [] (.bool false) [] rfl (by kernel_rfl) (trivial) ?_
 replace s := s.pick [] 1 rfl
 exact fun X h => vc rfl (h I5 _ s kk)
 have hf := iteF h20 hf
 refine WPK.condF (Eq.trans (b := .bool (!(Op.bytesLess (strOfNums x21).toList (strOfNums x22).toList))) (by kernel_rfl) (b_f h20)) ?_
 refine WPK.skip ?_
 refine WPK.region ?_
 refine RW.seg hT 3 [] [] [.int .i64 x18, .int .i64 (IntKind.i64.wrap (x18 + 1)), .int .i64 (IntKind.i64.wrap (x18 + 1))] [] (by kernel_rfl) (trivial) ?_
 refine RW.nil ?_
 subst hrec2
 exact ⟨n2, Nat.le_refl _, fun X h => kc (by kernel_rfl) rfl (h I5 (IntKind.i64.wrap (x18 + 1)) _ hf s kk e1 e2 e3)⟩
 have hf := iteF h17 hf
 refine RD.segM hT ht2 (by kernel_rfl) [10, 11, 12, 13, 14, 15, 16, 17, 18, 19, 20, 21, 22, 23, 24, 25, 26] [] [(112, .bool false)] [.bool false, undef, undef, undef, undef, undef, undef, undef, undef, undef, undef, undef, undef, undef, undef, .bool false, .bool false] [.veq (.bool (decide (x18 > 0))) (.bool false)] (by kernel_rfl) (by rintro w' ⟨I', s, k⟩; have e2 := e2S2.st k; have e1 := e1S2.st k; have e3 := e3S2.st k; have e14 := e14S2.st k; exact bo_f h17) ⟨_, s.pick [0] 1 rfl, kS2⟩ ?_
 refine RD.done (by kernel_rfl) ?_
 refine WPK.condF (by kernel_rfl) ?_
 refine WPK.skip ?_
 refine WPK.region ?_
 refine RW.seg hT 3 [] [] [.int .i64 x18, .int .i64 (IntKind.i64.wrap (x18 + 1)), .int .i64 (IntKind.i64.wrap (x18 + 1))] [] (by kernel_rfl) (trivial) ?_
 refine RW.nil ?_
 subst hrec2
 exact ⟨n2, Nat.le_refl _, fun X h => kc (by kernel_rfl) rfl (h I5 (IntKind.i64.wrap (x18 + 1)) _ hf s kk e1 e2 e3)⟩
 have hf := iteF h14 hf
 refine WPK.condF (Eq.trans (b := .bool (decide (x18 < (p0.Keys.length : Int)))) (by kernel_rfl) (bo_f h14)) ?_
 refine WPK.exit (blockQ.same ?_)
 refine WPK.seq ?_
 refine WPK.seq ?_
 refine WPK.region ?_
 refine RW.seg hT 1 [] [] [.int .i64 0] [] (by kernel_rfl) (trivial) ?_
 refine RW.nil ?_
 refine WPK.block ?_
 refine WPK.loop' (J := fun n3 D6 ds wz => ∀ X : Kont, (∀ (I6 : Nat → Prop) (x23 : Int) (w' : World), g18_l6 p0 n3 x23 = some r → St w1 M I6 ((.blk b1 (.cells #[.bool p0.Leaf, .slice A1 p0.Pairs.length u1, .slice A2 p0.Keys.length u2, .slice A3 p0.Kids.length u3] 26 (0, 0))) :: F) w' → Kp I w I6 w' → Elems rp_T_api_Pair I6 w' A1 p0.Pairs → Elems (Rp.slice (Rp.int .u8)) I6 w' A2 p0.Keys → Elems (Rp.int .i64) I6 w' A3 p0.Kids → X [(gd D6 0), .pointer (some ⟨b1, 0, none⟩), .bool false, (gd D6 3), (gd D6 4), .int .i64 x23, (gd D6 6), (gd D6 7), (gd D6 8), (gd D6 9), (gd D6 10), (gd D6 11), (gd D6 12), (gd D6 13), (gd D6 14), (gd D6 15), (gd D6 16), (gd D6 17), (gd D6 18), (gd D6 19), (gd D6 20), (gd D6 21), (gd D6 22), (gd D6 23), (gd D6 24), (gd D6 25), (gd D6 26), (gd D6 27), (gd D6 28), (gd D6 29), (gd D6 30), (gd D6 31), (gd D6 32), (gd D6 33), (gd D6 34), (gd D6 35), (gd D6 36), (gd D6 37), (gd D6 38), (gd D6 39), (gd D6 40), (gd D6 41), (gd D6 42), (gd D6 43), (gd D6 44), (gd D6 45), (gd D6 46), (gd D6 47), (gd D6 48), (gd D6 49), (gd D6 50), (gd D6 51), (gd D6 52), (gd D6 53), (gd D6 54), (gd D6 55), (gd D6 56), (gd D6 57), (gd D6 58), (gd D6 59), (gd D6 60), (gd D6 61), (gd D6 62), (gd D6 63), (gd D6 64), (gd D6 65), (gd D6 66), (gd D6 67), (gd D6 68), (gd D6 69), (gd D6 70), (gd D6 71), (gd D6 72), (gd D6 73), (gd D6 74), (gd D6 75), (gd D6 76), (gd D6 77), (gd D6 78), (gd D6 79), (gd D6 80), (gd D6 81), (gd D6 82), (gd D6 83), (gd D6 84), (gd D6 85), (gd D6 86), (gd D6 87), (gd D6 88), (gd D6 89), (gd D6 90), (gd D6 91), (gd D6 92), (gd D6 93), (gd D6 94), (gd D6 95), (gd D6 96), (gd D6 97), (gd D6 98), (gd D6 99), (gd D6 100), (gd D6 101), (gd D6 102), (gd D6 103), (gd D6 104), (gd D6 105), (gd D6 106), (gd D6 107), (gd D6 108), (gd D6 109), (gd D6 110), (gd D6 111), (gd D6 112), (gd D6 113), (gd D6 114), (gd D6 115), (gd D6 116), (gd D6 117), (gd D6 118), (gd D6 119), (gd D6 120), (gd D6 121), (gd D6 122), (gd D6 123), (gd D6 124), (gd D6 125), (gd D6 126), (gd D6 127), (gd D6 128), (gd D6 129), (gd D6 130), (gd D6 131), (gd D6 132), (gd D6 133), (gd D6 134), (gd D6 135), (gd D6 136), (gd D6 137), (gd D6 138), (gd D6 139), (gd D6 140), (gd D6 141), (gd D6 142)] [] w') → X D6 ds wz) FUEL (fun X h => kc (by kernel_rfl) rfl (h I4 0 _ hf s kk e1 e2 e3)) (fun _ _ _ hJ => hJ (fun _ _ _ => False) (by intro I6 x23 w10 hf s kk e1 e2 e3; exact noneS hf)) ?_
 intro X8 hX8
 refine fun n3 D6 _ _ hJ => hJ (X8 n3) ?_
 clear s
 intro I6 x23 w10 hf s kk e1 e2 e3
 refine hX8 _ _ _ _ ?_
 replace hf : g18_l6B p0 (g18_l6 p0 n3) x23 = some r := hf
 generalize hrec3 : g18_l6 p0 n3 = rec3 at hf
 unfold g18_l6B at hf
 refine WPK.seq ?_
 refine WPK.seq ?_
 refine WPK.region ?_
 refine RW.seg hT 5 [.slice A3 p0.Kids.length u3] [] [.int .i64 x23, .pointer (some ⟨b1, 3, none⟩), .slice A3 p0.Kids.length u3, .int .i64 (p0.Kids.length : Int), .bool (decide (x23 < (p0.Kids.length : Int)))] [.cell ⟨b1, 3, none⟩ (.slice A3 p0.Kids.length u3)] (by kernel_rfl) (s.cell (i := 0) (off := 3) rfl rfl) ?_
 refine RW.nil ?_
 by_cases h21 : x23 < (p0.Kids.length : Int)
 have hf := iteT h21 hf
 refine WPK.condT (Eq.trans (b := .bool (decide (x23 < (p0.Kids.length : Int)))) (by kernel_rfl) (bo_t h21)) ?_
 refine WPK.skip ?_
 refine WPK.seq ?_
 refine WPK.block ?_
 refine WPK.seq ?_
 refine WPK.region ?_
 obtain ⟨x24, hx11, hf⟩ := bindS hf
 obtain ⟨h22, hx11⟩ := getS hx11
 obtain ⟨b4, o3, rfl⟩ := Elems.opn e3 hx11
 obtain ⟨cs16, hr16, ha8⟩ := Elems.get e3 hx11
 obtain rfl : cs16 = [.int .i64 x24] := hr16
 refine RW.seg hT 5 [.slice (some ⟨b4, o3, none⟩) p0.Kids.length u3, .int .i64 x24] [] [.pointer (some ⟨b1, 3, none⟩), .slice (some ⟨b4, o3, none⟩) p0.Kids.length u3, .int .i64 x23, .pointer (some ⟨b4, o3 + x23.toNat * 1, none⟩), .int .i64 x24] [.cell ⟨b1, 3, none⟩ (.slice (some ⟨b4, o3, none⟩) p0.Kids.length u3), .idx x23 p0.Kids.length, .cell ⟨b4, o3 + x23.toNat * 1, none⟩ (.int .i64 x24)] (by kernel_rfl) (⟨s.cell (i := 0) (off := 3) rfl rfl, h22, ha8 0 _ rfl⟩) ?_
 obtain ⟨x25, hx12, hf⟩ := bindS hf
 refine RW.op (by kernel_rfl) (OK.call' en55 (by kernel_rfl) (c55 (F := (.blk b1 (.cells #[.bool p0.Leaf, .slice A1 p0.Pairs.length u1, .slice A2 p0.Keys.length u2, .slice (some ⟨b4, o3, none⟩) p0.Kids.length u3] 26 (0, 0))) :: F) x24 s hx12) ?_)
 intro X9 hX9
 refine fun _ _ hJ => hJ X9 ?_
 clear s
 intro I7 w11 s k6
 refine hX9 _ _ ?_
 replace e3 := e3.st k6
 replace e1 := e1.st k6
 replace e2 := e2.st k6
 replace kk := kk.trans k6
 refine RW.seg hT 1 [] [(142, .bool (decide (¬ (x25 = true))))] [.bool (decide (¬ (x25 = true)))] [.veq (.bool (!x25)) (.bool (decide (¬ (x25 = true))))] (by kernel_rfl) (not_b) ?_
 refine RW.nil ?_
 by_cases h23 : ¬ (x25 = true)
 have hf := iteT h23 hf
 refine WPK.condT (Eq.trans (b := .bool (decide (¬ (x25 = true)))) (by kernel_rfl) (bo_t h23)) ?_
 refine WPK.seq ?_
 refine WPK.region ?_
 refine RW.seg hT 1 [] [] [.bool false] [] (by kernel_rfl) (trivial) ?_
 refine RW.nil ?_
 refine WPK.ret (blockQ.ret (blockQ.ret (?_)))
 obtain rfl := someS hf
 refine Fin.of (rs := [.tmp 2]) hT [] (.bool false) [] rfl (by kernel_rfl) (trivial) ?_
 replace s := s.pick [] 1 rfl
 exact fun X h => vc rfl (h I7 _ s kk)
 have hf := iteF h23 hf
 refine WPK.condF (Eq.trans (b := .bool (decide (¬ (x25 = true)))) (by kernel_rfl) (bo_f h23)) ?_
 refine WPK.skip ?_
 refine WPK.region ?_
 refine RW.seg hT 3 [] [] [.int .i64 x23, .int .i64 (IntKind.i64.wrap (x23 + 1)), .int .i64 (IntKind.i64.wrap (x23 + 1))] [] (by kernel_rfl) (trivial) ?_
 refine RW.nil ?_
 subst hrec3
 exact ⟨n3, Nat.le_refl _, fun X h => kc (by kernel_rfl) rfl (h I7 (IntKind.i64.wrap (x23 + 1)) _ hf s kk e1 e2 e3)⟩
 have hf := iteF h21 hf
 refine WPK.condF (Eq.trans (b := .bool (decide (x23 < (p0.Kids.length : Int)))) (by kernel_rfl) (bo_f h21)) ?_
 refine WPK.exit (blockQ.same ?_)
 refine WPK.seq ?_
 refine WPK.region ?_
 refine RW.seg hT 1 [] [] [.bool true] [] (by kernel_rfl) (trivial) ?_
 refine RW.nil ?_
 refine WPK.ret (?_)
 obtain rfl := someS hf
 refine Fin.of (rs := [.tmp 2]) hT [] (.bool true) [] rfl (by kernel_rfl) (trivial) ?_
 replace s := s.pick [] 1 rfl
 exact fun X h => vc rfl (h I6 _ s kk)
 refine WPK.region ?_
 refine RW.seg hT 4 [.slice A1 p0.Pairs.length u1] [] [.pointer (some ⟨b1, 1, none⟩), .slice A1 p0.Pairs.length u1, .int .i64 (p0.Pairs.length : Int), .bool (decide ((p0.Pairs.length : Int) > 0))] [.cell ⟨b1, 1, none⟩ (.slice A1 p0.Pairs.length u1)] (by kernel_rfl) (s.cell (i := 0) (off := 1) rfl rfl) ?_
 by_cases h24 : (p0.Pairs.length : Int) > 0
 have hf := iteT h24 hf
 refine RW.seg hT 22 [] [(73, .bool true)] [.bool true, undef, undef, undef, undef, .bool true, .bool true, undef, undef, undef, undef, .bool true, .bool true, undef, undef, undef, undef, undef, undef, undef, undef, .bool true] [.veq (.bool (decide ((p0.Pairs.length : Int) > 0))) (.bool true)] (by kernel_rfl) (bo_t h24) ?_
 refine RW.nil ?_
 exact fun X h => kc (by kernel_rfl) rfl (h true hf)
 have hf := iteF h24 hf
 refine RW.seg hT 6 [.slice A2 p0.Keys.length u2] [(73, .bool false)] [.bool false, .pointer (some ⟨b1, 2, none⟩), .slice A2 p0.Keys.length u2, .int .i64 (p0.Keys.length : Int), .bool (decide ((p0.Keys.length : Int) < 1)), .bool (decide ((p0.Keys.length : Int) < 1))] [.veq (.bool (decide ((p0.Pairs.length : Int) > 0))) (.bool false), .cell ⟨b1, 2, none⟩ (.slice A2 p0.Keys.length u2)] (by kernel_rfl) (⟨bo_f h24, s.cell (i := 0) (off := 2) rfl rfl⟩) ?_
 by_cases h25 : (p0.Keys.length : Int) < 1
 have hf := iteT h25 hf
 refine RW.seg hT 16 [] [(79, .bool true)] [.bool true, undef, undef, undef, undef, .bool true, .bool true, undef, undef, undef, undef, undef, undef, undef, undef, .bool true] [.veq (.bool (decide ((p0.Keys.length : Int) < 1))) (.bool true)] (by kernel_rfl) (bo_t h25) ?_
 refine RW.nil ?_
 exact fun X h => kc (by kernel_rfl) rfl (h true hf)
 have hf := iteF h25 hf
 refine RW.seg hT 6 [.slice A2 p0.Keys.length u2] [(79, .bool false)] [.bool false, .pointer (some ⟨b1, 2, none⟩), .slice A2 p0.Keys.length u2, .int .i64 (p0.Keys.length : Int), .bool (decide ((p0.Keys.length : Int) > 255)), .bool (decide ((p0.Keys.length : Int) > 255))] [.veq (.bool (decide ((p0.Keys.length : Int) < 1))) (.bool false), .cell ⟨b1, 2, none⟩ (.slice A2 p0.Keys.length u2)] (by kernel_rfl) (⟨bo_f h25, s.cell (i := 0) (off := 2) rfl rfl⟩) ?_
 by_cases h26 : (p0.Keys.length : Int) > 255
 have hf := iteT h26 hf
 refine RW.seg hT 10 [] [(85, .bool true)] [.bool true, undef, undef, undef, undef, undef, undef, undef, undef, .bool true] [.veq (.bool (decide ((p0.Keys.length : Int) > 255))) (.bool true)] (by kernel_rfl) (bo_t h26) ?_
 refine RW.nil ?_
 exact fun X h => kc (by kernel_rfl) rfl (h true hf)
 have hf := iteF h26 hf
 refine RW.seg hT 10 [.slice A3 p0.Kids.length u3, .slice A2 p0.Keys.length u2] [(85, .bool false), (93, .bool (decide ((p0.Kids.length : Int) ≠ (IntKind.i64.wrap ((p0.Keys.length : Int) + 1)))))] [.bool false, .pointer (some ⟨b1, 3, none⟩), .slice A3 p0.Kids.length u3, .int .i64 (p0.Kids.length : Int), .pointer (some ⟨b1, 2, none⟩), .slice A2 p0.Keys.length u2, .int .i64 (p0.Keys.length : Int), .int .i64 (IntKind.i64.wrap ((p0.Keys.length : Int) + 1)), .bool (decide ((p0.Kids.length : Int) ≠ (IntKind.i64.wrap ((p0.Keys.length : Int) + 1)))), .bool (decide ((p0.Kids.length : Int) ≠ (IntKind.i64.wrap ((p0.Keys.length : Int) + 1))))] [.veq (.bool (decide ((p0.Keys.length : Int) > 255))) (.bool false), .cell ⟨b1, 3, none⟩ (.slice A3 p0.Kids.length u3), .cell ⟨b1, 2, none⟩ (.slice A2 p0.Keys.length u2), .veq (.bool ((p0.Kids.length : Int) != (IntKind.i64.wrap ((p0.Keys.length : Int) + 1)))) (.bool (decide ((p0.Kids.length : Int) ≠ (IntKind.i64.wrap ((p0.Keys.length : Int) + 1)))))] (by kernel_rfl) (⟨bo_f h26, s.cell (i := 0) (off := 3) rfl rfl, s.cell (i := 0) (off := 2) rfl rfl, ne_v⟩) ?_
 refine RW.nil ?_
 exact fun X h => kc (by kernel_rfl) rfl (h (decide ((p0.Kids.length : Int) ≠ (IntKind.i64.wrap ((p0.Keys.length : Int) + 1)))) hf)
theorem c77 {w1 w : World} {M I : Nat → Prop} {F : List It} (p0 : T_api_Node) (p1 : Int) (A1 : Option Addr) (u1 : Nat) (A2 : Option Addr) (u2 : Nat) (A3 : Option Addr) (u3 : Nat) (hc1 : (p0.Pairs.length ≤ u1 ∧ u1 ≤ 9223372036854775807)) (e1 : Elems rp_T_api_Pair I w A1 p0.Pairs) (hc2 : (p0.Keys.length ≤ u2 ∧ u2 ≤ 9223372036854775807)) (e2 : Elems (Rp.slice (Rp.int .u8)) I w A2 p0.Keys) (hc3 : (p0.Kids.length ≤ u3 ∧ u3 ≤ 9223372036854775807)) (e3 : Elems (Rp.int .i64) I w A3 p0.Kids) (s : St w1 M I (F) w) {r : (T_api_Node × (List Int) × T_api_Node)} (hf : g77 p0 p1 = some r) :
   Ret Try.prog 77 [.agg #[.bool p0.Leaf, .slice A1 p0.Pairs.length u1, .slice A2 p0.Keys.length u2, .slice A3 p0.Kids.length u3], .int .i64 p1] w fun v wz => ∀ X : Value → World → Prop, (∀ (I' : Nat → Prop) (A4 : Option Addr) (u4 : Nat) (A5 : Option Addr) (u5 : Nat) (A6 : Option Addr) (u6 : Nat) (A7 : Option Addr) (u7 : Nat) (A8 : Option Addr) (u8 : Nat) (A9 : Option Addr) (u9 : Nat) (A10 : Option Addr) (u10 : Nat) (w' : World), St w1 M I' (F) w' → Kp I w I' w' → (r.1.Pairs.length ≤ u4 ∧ u4 ≤ 9223372036854775807) → Elems rp_T_api_Pair I' w' A4 r.1.Pairs → (r.1.Keys.length ≤ u5 ∧ u5 ≤ 9223372036854775807) → Elems (Rp.slice (Rp.int .u8)) I' w' A5 r.1.Keys → (r.1.Kids.length ≤ u6 ∧ u6 ≤ 9223372036854775807) → Elems (Rp.int .i64) I' w' A6 r.1.Kids → (r.2.1.length ≤ u7 ∧ u7 ≤ 9223372036854775807) → Elems (Rp.int .u8) I' w' A7 r.2.1 → (r.2.2.Pairs.length ≤ u8 ∧ u8 ≤ 9223372036854775807) → Elems rp_T_api_Pair I' w' A8 r.2.2.Pairs → (r.2.2.Keys.length ≤ u9 ∧ u9 ≤ 9223372036854775807) → Elems (Rp.slice (Rp.int .u8)) I' w' A9 r.2.2.Keys → (r.2.2.Kids.length ≤ u10 ∧ u10 ≤ 9223372036854775807) → Elems (Rp.int .i64) I' w' A10 r.2.2.Kids → X (.tuple #[.agg #[.bool r.1.Leaf, .slice A4 r.1.Pairs.length u4, .slice A5 r.1.Keys.length u5, .slice A6 r.1.Kids.length u6], .slice A7 r.2.1.length u7, .agg #[.bool r.2.2.Leaf, .slice A8 r.2.2.Pairs.length u8, .slice A9 r.2.2.Keys.length u9, .slice A10 r.2.2.Kids.length u10]]) w') → X v wz := by
 have kk : Kp I w I w := Kp.refl
 unfold g77 at hf
 refine Ret.of Try.func77 rfl ?_
 refine WPK.seq ?_
 refine WPK.region ?_
 refine RW.op (by kernel_rfl) (OK.new hT (f := fun b => .pointer (some ⟨b, 0, none⟩)) (cs := [.bool p0.Leaf, .slice A1 p0.Pairs.length u1, .slice A2 p0.Keys.length u2, .slice A3 p0.Kids.length u3]) (e := 26) (c := .tt) s (by kernel_rfl) trivial ?_)
 clear s
 rintro w2 b1 s k1 -
 replace e1 := e1.st k1
 replace e2 := e2.st k1
 replace e3 := e3.st k1
 replace kk := kk.trans k1
 refine RW.op (by kernel_rfl) (OK.new hT (f := fun b => .pointer (some ⟨b, 0, none⟩)) (cs := [.bool false, .slice none 0 0, .slice none 0 0, .slice none 0 0]) (e := 26) (c := .tt) s (by kernel_rfl) trivial ?_)
 clear s
 rintro w3 b2 s k2 -
 replace e1 := e1.st k2
 replace e2 := e2.st k2
 replace e3 := e3.st k2
 replace kk := kk.trans k2
 refine RW.seg hT 1 [] [] [.slice none 0 0] [] (by kernel_rfl) (trivial) ?_
 refine RW.op (by kernel_rfl) (OK.new hT (f := fun b => .pointer (some ⟨b, 0, none⟩)) (cs := [.bool false, .slice none 0 0, .slice none 0 0, .slice none 0 0]) (e := 26) (c := .tt) s (by kernel_rfl) trivial ?_)
 clear s
 rintro w4 b3 s k3 -
 replace e1 := e1.st k3
 replace e2 := e2.st k3
 replace e3 := e3.st k3
 replace kk := kk.trans k3
 refine RW.nil ?_
 refine WPK.seq ?_
 refine WPK.seq ?_
 refine WPK.region ?_
 refine RW.seg hT 2 [.bool p0.Leaf] [] [.pointer (some ⟨b1, 0, none⟩), .bool p0.Leaf] [.cell ⟨b1, 0, none⟩ (.bool p0.Leaf)] (by kernel_rfl) (s.cell (i := 2) (off := 0) rfl rfl) ?_
 refine RW.nil ?_
 by_cases h1 : p0.Leaf = true
 have hf := iteT h1 hf
 refine WPK.condT (Eq.trans (b := .bool p0.Leaf) (by kernel_rfl) (b_t h1)) ?_
 refine WPK.seq ?_
 have e1S1 := e1
 have e2S1 := e2
 have e3S1 := e3
 have kS1 : Kp I w4 I w4 := Kp.refl
 refine WPK.drawM (fun w' => ∃ I' : Nat → Prop, St w1 M I' ((.blk b1 (.cells #[.bool p0.Leaf, .slice A1 p0.Pairs.length u1, .slice A2 p0.Keys.length u2, .slice A3 p0.Kids.length u3] 26 (0, 0))) :: F) w' ∧ Kp I w4 I' w') 19 [0, 1, 0, 7, 15, 0, 32, 0, 224, 480, 992, 0, 2048, 0, 14336, 30720, 31, 67583, 262143] (by kernel_rfl) (by kernel_rfl) ?_
 intro ht1 w5 hd1
 have k4 := Kp.dr s hd1
 replace s := s.dr hd1
 replace e1 := e1.st k4
 replace e2 := e2.st k4
 replace e3 := e3.st k4
 replace kk := kk.trans k4
 replace kS1 := kS1.trans k4
 obtain ⟨y1, hy1, hf⟩ := bindS hf
 obtain ⟨h2, hc4, e4, q1⟩ := slS0 hc1 e1 hy1
 obtain ⟨x1, hx1, hf⟩ := bindS hf
 obtain ⟨h3, hx1⟩ := getS hx1
 obtain ⟨b4, o1, rfl⟩ := Elems.opn e1 hx1
 obtain ⟨cs1, hr1, ha1, hb1⟩ := Elems.getI e1S1 hx1
 obtain ⟨cs2, cs3, rfl, hr2, hr3⟩ := hr1
 obtain ⟨A11, u11, rfl, q2, q3, e5⟩ := hr2
 have hc5 := And.intro q2 q3
 obtain ⟨A12, u12, rfl, q4, q5, e6⟩ := hr3
 have hc6 := And.intro q4 q5
 have e5S1 := e5
 replace e5 := e5.st kS1
 have e6S1 := e6
 replace e6 := e6.st kS1
 obtain ⟨y2, hy2, hf⟩ := bindS hf
 obtain ⟨A13, u13, h4, hc7, e7, q6, q7, q8⟩ := slS (size := 2) rfl hc1 e1 hy2
 refine RD.segM hT ht1 (by kernel_rfl) [0, 1, 2, 3, 4, 5, 6, 7, 8, 9, 10, 11, 12, 13, 14, 15] [.slice (some ⟨b4, o1, none⟩) p0.Pairs.length u1, .slice (some ⟨b4, o1, none⟩) p0.Pairs.length u1, .slice A11 x1.Key.length u11, .slice (some ⟨b4, o1, none⟩) p0.Pairs.length u1] [(12, .slice (some ⟨b4, o1, none⟩) y1.length u1), (23, .slice A13 y2.length u13)] [.pointer (some ⟨b1, 1, none⟩), .slice (some ⟨b4, o1, none⟩) p0.Pairs.length u1, .int .i64 p1, .slice (some ⟨b4, o1, none⟩) y1.length u1, .agg #[.bool true, .slice (some ⟨b4, o1, none⟩) y1.length u1, .slice none 0 0, .slice none 0 0], .pointer (some ⟨b1, 1, none⟩), .slice (some ⟨b4, o1, none⟩) p0.Pairs.length u1, .int .i64 p1, .pointer (some ⟨b4, o1 + p1.toNat * 2, none⟩), .pointer (some ⟨b4, o1 + p1.toNat * 2, none⟩), .slice A11 x1.Key.length u11, .pointer (some ⟨b1, 1, none⟩), .slice (some ⟨b4, o1, none⟩) p0.Pairs.length u1, .int .i64 p1, .slice A13 y2.length u13, .agg #[.bool true, .slice A13 y2.length u13, .slice none 0 0, .slice none 0 0]] [.cell ⟨b1, 1, none⟩ (.slice (some ⟨b4, o1, none⟩) p0.Pairs.length u1), .both (.cut 0 p1 u1 u1) (.veq (.slice (some ⟨b4, o1, none⟩) p1.toNat u1) (.slice (some ⟨b4, o1, none⟩) y1.length u1)), .cell ⟨b1, 1, none⟩ (.slice (some ⟨b4, o1, none⟩) p0.Pairs.length u1), .idx p1 p0.Pairs.length, .cell ⟨b4, o1 + p1.toNat * 2, none⟩ (.slice A11 x1.Key.length u11), .cell ⟨b1, 1, none⟩ (.slice (some ⟨b4, o1, none⟩) p0.Pairs.length u1), .both (.cut p1 (p0.Pairs.length : Int) u1 u1) (.veq (.slice (cutA (some ⟨b4, o1, none⟩) p1.toNat u1 2) (p0.Pairs.length - p1.toNat) (u1 - p1.toNat)) (.slice A13 y2.length u13))] (by kernel_rfl) (by rintro w' ⟨I', s, k⟩; have e1 := e1S1.st k; have e2 := e2S1.st k; have e3 := e3S1.st k; have e5 := e5S1.st k; have e6 := e6S1.st k; have ha1 := ha1.st k hb1; exact ⟨s.cell (i := 0) (off := 1) rfl rfl, ⟨⟨by omega, by omega, by omega, by omega⟩, sl_eq rfl q1 rfl⟩, s.cell (i := 0) (off := 1) rfl rfl, h3, ha1 0 _ rfl, s.cell (i := 0) (off := 1) rfl rfl, ⟨⟨by omega, by omega, by omega, by omega⟩, sl_eq q6 q7 q8⟩⟩) ⟨_, s.pick [2] 3 rfl, kS1⟩ ?_
 refine RD.op (i := 16) rfl (by kernel_rfl) (by kernel_rfl) (OK.store hT (i := 1) (b := b2) (off := 0) (n := 4) (vs := [.bool true, .slice (some ⟨b4, o1, none⟩) y1.length u1, .slice none 0 0, .slice none 0 0]) (cs := [.bool false, .slice none 0 0, .slice none 0 0, .slice none 0 0]) (e := 26) s (by kernel_rfl) rfl rfl (flat_ok rfl) (Nat.le_of_ble_eq_true rfl) ?_)
 clear s
 rintro w6 s k5 -
 replace e1 := e1.st k5
 replace e2 := e2.st k5
 replace e3 := e3.st k5
 replace e4 := e4.st k5
 replace e5 := e5.st k5
 replace e7 := e7.st k5
 replace kk := kk.trans k5
 replace kS1 := kS1.trans k5
 refine ⟨fun _ => ⟨_, s.pick [2] 3 rfl, kS1⟩, RD.fold ?_⟩
 refine RD.segM hT ht1 (by kernel_rfl) [17] [] [] [.slice A11 x1.Key.length u11] [] (by kernel_rfl) (fun _ _ => trivial) ⟨_, s.pick [2] 3 rfl, kS1⟩ ?_
 refine RD.op (i := 18) rfl (by kernel_rfl) (by kernel_rfl) (OK.store hT (i := 0) (b := b3) (off := 0) (n := 4) (vs := [.bool true, .slice A13 y2.length u13, .slice none 0 0, .slice none 0 0]) (cs := [.bool false, .slice none 0 0, .slice none 0 0, .slice none 0 0]) (e := 26) s (by kernel_rfl) rfl rfl (flat_ok rfl) (Nat.le_of_ble_eq_true rfl) ?_)
 clear s
 rintro w7 s k6 -
 replace e1 := e1.st k6
 replace e2 := e2.st k6
 replace e3 := e3.st k6
 replace e5 := e5.st k6
 replace e4 := e4.st k6
 replace e7 := e7.st k6
 replace kk := kk.trans k6
 replace kS1 := kS1.trans k6
 refine ⟨fun _ => ⟨_, s.pick [2] 3 rfl, kS1⟩, RD.fold ?_⟩
 refine RD.done (by kernel_rfl) ?_
 refine WPK.ret (?_)
 obtain rfl := someS hf
 refine Fin.of (rs := [.cell 4 26, .tmp 5, .cell 6 26]) hT [.agg #[.bool true, .slice (some ⟨b4, o1, none⟩) y1.length u1, .slice none 0 0, .slice none 0 0], .agg #[.bool true, .slice A13 y2.length u13, .slice none 0 0, .slice none 0 0]] (.tuple #[.agg #[.bool true, .slice (some ⟨b4, o1, none⟩) y1.length u1, .slice none 0 0, .slice none 0 0], .slice A11 x1.Key.length u11, .agg #[.bool true, .slice A13 y2.length u13, .slice none 0 0, .slice none 0 0]]) [.cells ⟨b2, 0, none⟩ [.bool true, .slice (some ⟨b4, o1, none⟩) y1.length u1, .slice none 0 0, .slice none 0 0] 4, .cells ⟨b3, 0, none⟩ [.bool true, .slice A13 y2.length u13, .slice none 0 0, .slice none 0 0] 4] rfl (by kernel_rfl) (⟨s.cells (i := 1) rfl rfl rfl, s.cells (i := 0) rfl rfl rfl⟩) ?_
 replace s := s.pick [] 3 rfl
 exact fun X h => vc rfl (h I (some ⟨b4, o1, none⟩) u1 none 0 none 0 A11 u11 A13 u13 none 0 none 0 _ s kk hc4 e4 nil_hc Elems.nil nil_hc Elems.nil hc5 e5 hc7 e7 nil_hc Elems.nil nil_hc Elems.nil)
 have hf := iteF h1 hf
 refine WPK.condF (Eq.trans (b := .bool p0.Leaf) (by kernel_rfl) (b_f h1)) ?_
 refine WPK.skip ?_
 refine WPK.seq ?_
 have e1S2 := e1
 have e2S2 := e2
 have e3S2 := e3
 have kS2 : Kp I w4 I w4 := Kp.refl
 refine WPK.drawM (fun w' => ∃ I' : Nat → Prop, St w1 M I' ((.blk b1 (.cells #[.bool p0.Leaf, .slice A1 p0.Pairs.length u1, .slice A2 p0.Keys.length u2, .slice A3 p0.Kids.length u3] 26 (0, 0))) :: F) w' ∧ Kp I w4 I' w') 29 [0, 1, 0, 7, 0, 16, 0, 64, 240, 511, 0, 1024, 0, 7168, 15360, 0, 32768, 0, 131072, 491520, 0, 1048576, 0, 4194304, 15728640, 33521664, 1023, 67141631, 268435455] (by kernel_rfl) (by kernel_rfl) ?_
 intro ht2 w8 hd2
 have k7 := Kp.dr s hd2
 replace s := s.dr hd2
 replace e1 := e1.st k7
 replace e2 := e2.st k7
 replace e3 := e3.st k7
 replace kk := kk.trans k7
 replace kS2 := kS2.trans k7
 obtain ⟨y3, hy3, hf⟩ := bindS hf
 obtain ⟨h5, hc8, e8, q9⟩ := slS0 hc2 e2 hy3
 obtain ⟨y4, hy4, hf⟩ := bindS hf
 obtain ⟨h6, hc9, e9, q10⟩ := slS0 hc3 e3 hy4
 obtain ⟨x2, hx2, hf⟩ := bindS hf
 obtain ⟨h7, hx2⟩ := getS hx2
 obtain ⟨b5, o2, rfl⟩ := Elems.opn e2 hx2
 obtain ⟨cs4, hr4, ha2, hb2⟩ := Elems.getI e2S2 hx2
 obtain ⟨A14, u14, rfl, q11, q12, e10⟩ := hr4
 have hc10 := And.intro q11 q12
 have e10S2 := e10
 replace e10 := e10.st kS2
 obtain ⟨y5, hy5, hf⟩ := bindS hf
 obtain ⟨A15, u15, h8, hc11, e11, q13, q14, q15⟩ := slS (size := 1) rfl hc2 e2 hy5
 obtain ⟨y6, hy6, hf⟩ := bindS hf
 obtain ⟨A16, u16, h9, hc12, e12, q16, q17, q18⟩ := slS (size := 1) rfl hc3 e3 hy6
 refine RD.segM hT ht2 (by kernel_rfl) [0, 1, 2, 3, 4, 5, 6, 7, 8, 9, 10, 11, 12, 13, 14, 15, 16, 17, 18, 19, 20, 21, 22, 23, 24, 25] [.slice (some ⟨b5, o2, none⟩) p0.Keys.length u2, .slice A3 p0.Kids.length u3, .slice (some ⟨b5, o2, none⟩) p0.Keys.length u2, .slice A14 x2.length u14, .slice (some ⟨b5, o2, none⟩) p0.Keys.length u2, .slice A3 p0.Kids.length u3] [(28, .slice (some ⟨b5, o2, none⟩) y3.length u2), (33, .slice A3 y4.length u3), (44, .slice A15 y5.length u15), (49, .slice A16 y6.length u16)] [.pointer (some ⟨b1, 2, none⟩), .slice (some ⟨b5, o2, none⟩) p0.Keys.length u2, .int .i64 p1, .slice (some ⟨b5, o2, none⟩) y3.length u2, .pointer (some ⟨b1, 3, none⟩), .slice A3 p0.Kids.length u3, .int .i64 p1, .int .i64 (IntKind.i64.wrap (p1 + 1)), .slice A3 y4.length u3, .agg #[.bool false, .slice none 0 0, .slice (some ⟨b5, o2, none⟩) y3.length u2, .slice A3 y4.length u3], .pointer (some ⟨b1, 2, none⟩), .slice (some ⟨b5, o2, none⟩) p0.Keys.length u2, .int .i64 p1, .pointer (some ⟨b5, o2 + p1.toNat * 1, none⟩), .slice A14 x2.length u14, .pointer (some ⟨b1, 2, none⟩), .slice (some ⟨b5, o2, none⟩) p0.Keys.length u2, .int .i64 p1, .int .i64 (IntKind.i64.wrap (p1 + 1)), .slice A15 y5.length u15, .pointer (some ⟨b1, 3, none⟩), .slice A3 p0.Kids.length u3, .int .i64 p1, .int .i64 (IntKind.i64.wrap (p1 + 1)), .slice A16 y6.length u16, .agg #[.bool false, .slice none 0 0, .slice A15 y5.length u15, .slice A16 y6.length u16]] [.cell ⟨b1, 2, none⟩ (.slice (some ⟨b5, o2, none⟩) p0.Keys.length u2), .both (.cut 0 p1 u2 u2) (.veq (.slice (some ⟨b5, o2, none⟩) p1.toNat u2) (.slice (some ⟨b5, o2, none⟩) y3.length u2)), .cell ⟨b1, 3, none⟩ (.slice A3 p0.Kids.length u3), .both (.cut 0 (IntKind.i64.wrap (p1 + 1)) u3 u3) (.veq (.slice A3 (IntKind.i64.wrap (p1 + 1)).toNat u3) (.slice A3 y4.length u3)), .cell ⟨b1, 2, none⟩ (.slice (some ⟨b5, o2, none⟩) p0.Keys.length u2), .idx p1 p0.Keys.length, .cell ⟨b5, o2 + p1.toNat * 1, none⟩ (.slice A14 x2.length u14), .cell ⟨b1, 2, none⟩ (.slice (some ⟨b5, o2, none⟩) p0.Keys.length u2), .both (.cut (IntKind.i64.wrap (p1 + 1)) (p0.Keys.length : Int) u2 u2) (.veq (.slice (cutA (some ⟨b5, o2, none⟩) (IntKind.i64.wrap (p1 + 1)).toNat u2 1) (p0.Keys.length - (IntKind.i64.wrap (p1 + 1)).toNat) (u2 - (IntKind.i64.wrap (p1 + 1)).toNat)) (.slice A15 y5.length u15)), .cell ⟨b1, 3, none⟩ (.slice A3 p0.Kids.length u3), .both (.cut (IntKind.i64.wrap (p1 + 1)) (p0.Kids.length : Int) u3 u3) (.veq (.slice (cutA A3 (IntKind.i64.wrap (p1 + 1)).toNat u3 1) (p0.Kids.length - (IntKind.i64.wrap (p1 + 1)).toNat) (u3 - (IntKind.i64.wrap (p1 + 1)).toNat)) (.slice A16 y6.length u16))] (by kernel_rfl) (by rintro w' ⟨I', s, k⟩; have e1 := e1S2.st k; have e2 := e2S2.st k; have e3 := e3S2.st k; have e10 := e10S2.st k; have ha2 := ha2.st k hb2; exact ⟨s.cell (i := 0) (off := 2) rfl rfl, ⟨⟨by omega, by omega, by omega, by omega⟩, sl_eq rfl q9 rfl⟩, s.cell (i := 0) (off := 3) rfl rfl, ⟨⟨by omega, by omega, by omega, by omega⟩, sl_eq rfl q10 rfl⟩, s.cell (i := 0) (off := 2) rfl rfl, h7, ha2 0 _ rfl, s.cell (i := 0) (off := 2) rfl rfl, ⟨⟨by omega, by omega, by omega, by omega⟩, sl_eq q13 q14 q15⟩, s.cell (i := 0) (off := 3) rfl rfl, ⟨⟨by omega, by omega, by omega, by omega⟩, sl_eq q16 q17 q18⟩⟩) ⟨_, s.pick [2] 3 rfl, kS2⟩ ?_
 refine RD.op (i := 26) rfl (by kernel_rfl) (by kernel_rfl) (OK.store hT (i := 1) (b := b2) (off := 0) (n := 4) (vs := [.bool false, .slice none 0 0, .slice (some ⟨b5, o2, none⟩) y3.length u2, .slice A3 y4.length u3]) (cs := [.bool false, .slice none 0 0, .slice none 0 0, .slice none 0 0]) (e := 26) s (by kernel_rfl) rfl rfl (flat_ok rfl) (Nat.le_of_ble_eq_true rfl) ?_)
 clear s
 rintro w9 s k8 -
 replace e1 := e1.st k8
 replace e2 := e2.st k8
 replace e3 := e3.st k8
 replace e8 := e8.st k8
 replace e9 := e9.st k8
 replace e10 := e10.st k8
 replace e11 := e11.st k8
 replace e12 := e12.st k8
 replace kk := kk.trans k8
 replace kS2 := kS2.trans k8
 refine ⟨fun _ => ⟨_, s.pick [2] 3 rfl, kS2⟩, RD.fold ?_⟩
 refine RD.segM hT ht2 (by kernel_rfl) [27] [] [] [.slice A14 x2.length u14] [] (by kernel_rfl) (fun _ _ => trivial) ⟨_, s.pick [2] 3 rfl, kS2⟩ ?_
 refine RD.op (i := 28) rfl (by kernel_rfl) (by kernel_rfl) (OK.store hT (i := 0) (b := b3) (off := 0) (n := 4) (vs := [.bool false, .slice none 0 0, .slice A15 y5.length u15, .slice A16 y6.length u16]) (cs := [.bool false, .slice none 0 0, .slice none 0 0, .slice none 0 0]) (e := 26) s (by kernel_rfl) rfl rfl (flat_ok rfl) (Nat.le_of_ble_eq_true rfl) ?_)
 clear s
 rintro w10 s k9 -
 replace e1 := e1.st k9
 replace e2 := e2.st k9
 replace e3 := e3.st k9
 replace e10 := e10.st k9
 replace e8 := e8.st k9
 replace e9 := e9.st k9
 replace e11 := e11.st k9
 replace e12 := e12.st k9
 replace kk := kk.trans k9
 replace kS2 := kS2.trans k9
 refine ⟨fun _ => ⟨_, s.pick [2] 3 rfl, kS2⟩, RD.fold ?_⟩
 refine RD.done (by kernel_rfl) ?_
 refine WPK.ret (?_)
 obtain rfl := someS hf
 refine Fin.of (rs := [.cell 4 26, .tmp 5, .cell 6 26]) hT [.agg #[.bool false, .slice none 0 0, .slice (some ⟨b5, o2, none⟩) y3.length u2, .slice A3 y4.length u3], .agg #[.bool false, .slice none 0 0, .slice A15 y5.length u15, .slice A16 y6.length u16]] (.tuple #[.agg #[.bool false, .slice none 0 0, .slice (some ⟨b5, o2, none⟩) y3.length u2, .slice A3 y4.length u3], .slice A14 x2.length u14, .agg #[.bool false, .slice none 0 0, .slice A15 y5.length u15, .slice A16 y6.length u16]]) [.cells ⟨b2, 0, none⟩ [.bool false, .slice none 0 0, .slice (some ⟨b5, o2, none⟩) y3.length u2, .slice A3 y4.length u3] 4, .cells ⟨b3, 0, none⟩ [.bool false, .slice none 0 0, .slice A15 y5.length u15, .slice A16 y6.length u16] 4] rfl (by kernel_rfl) (⟨s.cells (i := 1) rfl rfl rfl, s.cells (i := 0) rfl rfl rfl⟩) ?_
 replace s := s.pick [] 3 rfl
 exact fun X h => vc rfl (h I none 0 (some ⟨b5, o2, none⟩) u2 A3 u3 A14 u14 none 0 A15 u15 A16 u16 _ s kk nil_hc Elems.nil hc8 e8 hc9 e9 hc10 e10 nil_hc Elems.nil hc11 e11 hc12 e12)
theorem c61 {w1 w : World} {M I : Nat → Prop} {F : List It} (p0 : T_api_Node) (A1 : Option Addr) (u1 : Nat) (A2 : Option Addr) (u2 : Nat) (A3 : Option Addr) (u3 : Nat) (hc1 : (p0.Pairs.length ≤ u1 ∧ u1 ≤ 9223372036854775807)) (e1 : Elems rp_T_api_Pair I w A1 p0.Pairs) (hc2 : (p0.Keys.length ≤ u2 ∧ u2 ≤ 9223372036854775807)) (e2 : Elems (Rp.slice (Rp.int .u8)) I w A2 p0.Keys) (hc3 : (p0.Kids.length ≤ u3 ∧ u3 ≤ 9223372036854775807)) (e3 : Elems (Rp.int .i64) I w A3 p0.Kids) (s : St w1 M I (F) w) {r : (List Int)} (hf : g61 p0 = some r) :
   Ret Try.prog 61 [.agg #[.bool p0.Leaf, .slice A1 p0.Pairs.length u1, .slice A2 p0.Keys.length u2, .slice A3 p0.Kids.length u3]] w fun v wz => ∀ X : Value → World → Prop, (∀ (I' : Nat → Prop) (A4 : Option Addr) (n1 : Nat) (u4 : Nat) (cl1 : List Value) (w' : World), St w1 M I' ((.sl (.slice A4 n1 u4) 5 1 n1 cl1) :: F) w' → Kp I w I' w' → n1 = r.length → RepL (Rp.int .u8) I' w' cl1 r → X (.slice A4 n1 u4) w') → X v wz := by
 have kk : Kp I w I w := Kp.refl
 unfold g61 at hf
 refine Ret.of Try.func61 rfl ?_
 refine WPK.seq ?_
 refine WPK.region ?_
 refine RW.op (by kernel_rfl) (OK.new hT (f := fun b => .pointer (some ⟨b, 0, none⟩)) (cs := [.bool p0.Leaf, .slice A1 p0.Pairs.length u1, .slice A2 p0.Keys.length u2, .slice A3 p0.Kids.length u3]) (e := 26) (c := .tt) s (by kernel_rfl) trivial ?_)
 clear s
 rintro w2 b1 s k1 -
 replace e1 := e1.st k1
 replace e2 := e2.st k1
 replace e3 := e3.st k1
 replace kk := kk.trans k1
 refine RW.seg hT 1 [] [] [.slice none 0 0] [] (by kernel_rfl) (trivial) ?_
 refine RW.nil ?_
 refine WPK.seq ?_
 refine WPK.seq ?_
 refine WPK.region ?_
 refine RW.seg hT 2 [.bool p0.Leaf] [] [.pointer (some ⟨b1, 0, none⟩), .bool p0.Leaf] [.cell ⟨b1, 0, none⟩ (.bool p0.Leaf)] (by kernel_rfl) (s.cell (i := 0) (off := 0) rfl rfl) ?_
 refine RW.nil ?_
 by_cases h1 : p0.Leaf = true
 have hf := iteT h1 hf
 refine WPK.condT (Eq.trans (b := .bool p0.Leaf) (by kernel_rfl) (b_t h1)) ?_
 refine WPK.seq ?_
 refine WPK.region ?_
 refine RW.seg hT 4 [.slice A1 p0.Pairs.length u1, undef] [] [.pointer (some ⟨b1, 1, none⟩), .slice A1 p0.Pairs.length u1, .int .i64 (p0.Pairs.length : Int), .int .u8 (IntKind.u8.wrap (p0.Pairs.length : Int))] [.cell ⟨b1, 1, none⟩ (.slice A1 p0.Pairs.length u1)] (by kernel_rfl) (s.cell (i := 0) (off := 1) rfl rfl) ?_
 refine RW.op (by kernel_rfl) (OK.new hT (f := fun b => .slice (some ⟨b, 0, none⟩) 1 1) (cs := [.int .u8 (IntKind.u8.wrap (p0.Pairs.length : Int))]) (e := 5) (c := .tt) s (by kernel_rfl) trivial ?_)
 clear s
 rintro w3 b2 s k2 -
 replace e1 := e1.st k2
 replace e2 := e2.st k2
 replace e3 := e3.st k2
 replace kk := kk.trans k2
 have rp1 : RepL (Rp.int .u8) I w3 [.int .u8 (IntKind.u8.wrap (p0.Pairs.length : Int))] ([IntKind.u8.wrap (p0.Pairs.length : Int)] : List Int) := RepL.cons (c := [.int .u8 (IntKind.u8.wrap (p0.Pairs.length : Int))]) (d := []) (rfl) (RepL.nil)
 replace s : St w1 M I ((.sl (.slice (some ⟨b2, 0, none⟩) 1 1) 5 1 1 [.int .u8 (IntKind.u8.wrap (p0.Pairs.length : Int))]) :: (.blk b1 (.cells #[.bool p0.Leaf, .slice A1 p0.Pairs.length u1, .slice A2 p0.Keys.length u2, .slice A3 p0.Kids.length u3] 26 (0, 0))) :: F) w3 := s.blkSl (i := 0) (n := 1) (c := 1) (size := 1) rfl rfl (Nat.le_refl _) (by decide)
 refine RW.seg hT 1 [] [] [.slice (some ⟨b2, 0, none⟩) 1 1] [] (by kernel_rfl) (trivial) ?_
 refine RW.nil ?_
 refine WPK.seq ?_
 refine WPK.seq ?_
 refine WPK.region ?_
 refine RW.seg hT 1 [] [] [.int .i64 0] [] (by kernel_rfl) (trivial) ?_
 refine RW.nil ?_
 refine WPK.block ?_
 refine WPK.loop' (J := fun n2 D1 ds wz => ∀ X : Kont, (∀ (I1 : Nat → Prop) (x1 : (List Int)) (x2 : Int) (A5 : Option Addr) (u5 : Nat) (cl2 : List Value) (w' : World), g61_l1 p0 n2 x1 x2 = some r → St w1 M I1 ((.sl (.slice A5 x1.length u5) 5 1 x1.length cl2) :: (.blk b1 (.cells #[.bool p0.Leaf, .slice A1 p0.Pairs.length u1, .slice A2 p0.Keys.length u2, .slice A3 p0.Kids.length u3] 26 (0, 0))) :: F) w' → Kp I w I1 w' → RepL (Rp.int .u8) I1 w' cl2 x1 → Elems rp_T_api_Pair I1 w' A1 p0.Pairs → Elems (Rp.slice (Rp.int .u8)) I1 w' A2 p0.Keys → Elems (Rp.int .i64) I1 w' A3 p0.Kids → X [(gd D1 0), .pointer (some ⟨b1, 0, none⟩), .slice none 0 0, .slice A5 x1.length u5, .int .i64 x2, (gd D1 5), undef, undef, (gd D1 8), (gd D1 9), (gd D1 10), (gd D1 11), (gd D1 12), (gd D1 13), (gd D1 14), (gd D1 15), (gd D1 16), (gd D1 17), (gd D1 18), (gd D1 19), (gd D1 20), (gd D1 21), (gd D1 22), (gd D1 23), (gd D1 24), (gd D1 25), (gd D1 26), (gd D1 27), (gd D1 28), (gd D1 29), (gd D1 30), (gd D1 31), (gd D1 32), (gd D1 33), (gd D1 34), (gd D1 35), (gd D1 36), (gd D1 37), (gd D1 38), (gd D1 39), (gd D1 40), (gd D1 41), (gd D1 42), (gd D1 43), (gd D1 44), (gd D1 45), (gd D1 46), undef, undef, undef, undef, undef, undef, undef, undef, undef, undef, undef, undef, undef, undef, undef, undef, undef, undef, undef, undef, undef, undef, undef, undef, undef, undef, undef, undef, undef, undef, undef, undef, undef, undef, undef, undef, undef, undef, undef, undef, undef, undef, undef, undef, undef, undef, undef, undef, undef, undef, undef, undef, undef, undef, undef, undef, undef, undef, undef, undef, undef] [] w') → X D1 ds wz) FUEL (fun X h => kc (by kernel_rfl) rfl (h I ([IntKind.u8.wrap (p0.Pairs.length : Int)] : List Int) 0 (some ⟨b2, 0, none⟩) 1 [.int .u8 (IntKind.u8.wrap (p0.Pairs.length : Int))] _ hf s kk rp1 e1 e2 e3)) (fun _ _ _ hJ => hJ (fun _ _ _ => False) (by intro I1 x1 x2 A5 u5 cl2 w4 hf s kk rp2 e1 e2 e3; exact noneS hf)) ?_
 intro X1 hX1
 refine fun n2 D1 _ _ hJ => hJ (X1 n2) ?_
 clear s
 intro I1 x1 x2 A5 u5 cl2 w4 hf s kk rp2 e1 e2 e3
 refine hX1 _ _ _ _ ?_
 replace hf : g61_l1B p0 (g61_l1 p0 n2) x1 x2 = some r := hf
 generalize hrec1 : g61_l1 p0 n2 = rec1 at hf
 unfold g61_l1B at hf
 refine WPK.seq ?_
 refine WPK.seq ?_
 refine WPK.region ?_
 refine RW.seg hT 5 [.slice A1 p0.Pairs.length u1] [] [.int .i64 x2, .pointer (some ⟨b1, 1, none⟩), .slice A1 p0.Pairs.length u1, .int .i64 (p0.Pairs.length : Int), .bool (decide (x2 < (p0.Pairs.length : Int)))] [.cell ⟨b1, 1, none⟩ (.slice A1 p0.Pairs.length u1)] (by kernel_rfl) (s.cell (i := 1) (off := 1) rfl rfl) ?_
 refine RW.nil ?_
 by_cases h2 : x2 < (p0.Pairs.length : Int)
 have hf := iteT h2 hf
 refine WPK.condT (Eq.trans (b := .bool (decide (x2 < (p0.Pairs.length : Int)))) (by kernel_rfl) (bo_t h2)) ?_
 refine WPK.skip ?_
 refine WPK.seq ?_
 refine WPK.block ?_
 refine WPK.seq ?_
 refine WPK.region ?_
 obtain ⟨x3, hx1, hf⟩ := bindS hf
 obtain ⟨h3, hx1⟩ := getS hx1
 obtain ⟨b3, o1, rfl⟩ := Elems.opn e1 hx1
 obtain ⟨cs1, hr1, ha1⟩ := Elems.get e1 hx1
 obtain ⟨cs2, cs3, rfl, hr2, hr3⟩ := hr1
 obtain ⟨A6, u6, rfl, q1, q2, e4⟩ := hr2
 have hc4 := And.intro q1 q2
 obtain ⟨A7, u7, rfl, q3, q4, e5⟩ := hr3
 have hc5 := And.intro q3 q4
 refine RW.seg hT 5 [.slice (some ⟨b3, o1, none⟩) p0.Pairs.length u1, .agg #[.slice A6 x3.Key.length u6, .slice A7 x3.Val.length u7]] [] [.pointer (some ⟨b1, 1, none⟩), .slice (some ⟨b3, o1, none⟩) p0.Pairs.length u1, .int .i64 x2, .pointer (some ⟨b3, o1 + x2.toNat * 2, none⟩), .agg #[.slice A6 x3.Key.length u6, .slice A7 x3.Val.length u7]] [.cell ⟨b1, 1, none⟩ (.slice (some ⟨b3, o1, none⟩) p0.Pairs.length u1), .idx x2 p0.Pairs.length, .cells ⟨b3, o1 + x2.toNat * 2, none⟩ [.slice A6 x3.Key.length u6, .slice A7 x3.Val.length u7] 2] (by kernel_rfl) (⟨s.cell (i := 1) (off := 1) rfl rfl, h3, at_cells ha1 (off := 0) rfl rfl⟩) ?_
 refine RW.op (by kernel_rfl) (OK.new hT (f := fun b => .pointer (some ⟨b, 0, none⟩)) (cs := [.slice none 0 0, .slice none 0 0]) (e := 48) (c := .tt) s (by kernel_rfl) trivial ?_)
 clear s
 rintro w5 b4 s k3 -
 replace e1 := e1.st k3
 replace e4 := e4.st k3
 replace e5 := e5.st k3
 replace e2 := e2.st k3
 replace e3 := e3.st k3
 replace rp2 := rp2.st k3
 replace kk := kk.trans k3
 refine RW.op (by kernel_rfl) (OK.store hT (i := 0) (b := b4) (off := 0) (n := 2) (vs := [.slice A6 x3.Key.length u6, .slice A7 x3.Val.length u7]) (cs := [.slice none 0 0, .slice none 0 0]) (e := 48) s (by kernel_rfl) rfl rfl (flat_ok rfl) (Nat.le_of_ble_eq_true rfl) ?_)
 clear s
 rintro w6 s k4 -
 replace e1 := e1.st k4
 replace e4 := e4.st k4
 replace e5 := e5.st k4
 replace e2 := e2.st k4
 replace e3 := e3.st k4
 replace rp2 := rp2.st k4
 replace kk := kk.trans k4
 refine RW.nil ?_
 refine WPK.seq ?_
 have e1S1 := e1
 have e4S1 := e4
 have e5S1 := e5
 have e2S1 := e2
 have e3S1 := e3
 have rp2S1 := rp2
 have kS1 : Kp I1 w6 I1 w6 := Kp.refl
 refine WPK.drawM (fun w' => ∃ I' : Nat → Prop, St w1 M I' ((.blk b4 (.cells #[.slice A6 x3.Key.length u6, .slice A7 x3.Val.length u7] 48 (0, 0))) :: (.blk b1 (.cells #[.bool p0.Leaf, .slice (some ⟨b3, o1, none⟩) p0.Pairs.length u1, .slice A2 p0.Keys.length u2, .slice A3 p0.Kids.length u3] 26 (0, 0))) :: F) w' ∧ Kp I1 w6 I' w') 11 [0, 0, 2, 6, 14, 30, 63, 0, 128, 511, 1023] (by kernel_rfl) (by kernel_rfl) ?_
 intro ht1 w7 hd1
 have k5 := Kp.dr s hd1
 replace s := s.dr hd1
 replace e1 := e1.st k5
 replace e4 := e4.st k5
 replace e5 := e5.st k5
 replace e2 := e2.st k5
 replace e3 := e3.st k5
 replace rp2 := rp2.st k5
 replace kk := kk.trans k5
 replace kS1 := kS1.trans k5
 refine RD.segM hT ht1 (by kernel_rfl) [0, 1, 2, 3, 4, 7, 8] [.slice A6 x3.Key.length u6, undef, .slice A6 x3.Key.length u6] [] [.slice A5 x1.length u5, .pointer (some ⟨b4, 0, none⟩), .slice A6 x3.Key.length u6, .int .i64 (x3.Key.length : Int), .int .u8 (IntKind.u8.wrap (x3.Key.length : Int)), .pointer (some ⟨b4, 0, none⟩), .slice A6 x3.Key.length u6] [.cell ⟨b4, 0, none⟩ (.slice A6 x3.Key.length u6), .cell ⟨b4, 0, none⟩ (.slice A6 x3.Key.length u6)] (by kernel_rfl) (by rintro w' ⟨I', s, k⟩; have e1 := e1S1.st k; have e4 := e4S1.st k; have e5 := e5S1.st k; have e2 := e2S1.st k; have e3 := e3S1.st k; have rp2 := rp2S1.st k; exact ⟨s.cell (i := 0) (off := 0) rfl rfl, s.cell (i := 0) (off := 0) rfl rfl⟩) ⟨_, s.pick [0, 2] 3 rfl, kS1⟩ ?_
 refine RD.op (i := 5) rfl (by kernel_rfl) (by kernel_rfl) (OK.new hT (f := fun b => .slice (some ⟨b, 0, none⟩) 1 1) (cs := [.int .u8 (IntKind.u8.wrap (x3.Key.length : Int))]) (e := 5) (c := .tt) s (by kernel_rfl) trivial ?_)
 clear s
 rintro w8 b5 s k6 -
 replace e1 := e1.st k6
 replace e4 := e4.st k6
 replace e5 := e5.st k6
 replace e2 := e2.st k6
 replace e3 := e3.st k6
 replace rp2 := rp2.st k6
 replace kk := kk.trans k6
 replace kS1 := kS1.trans k6
 have rp3 : RepL (Rp.int .u8) I1 w8 [.int .u8 (IntKind.u8.wrap (x3.Key.length : Int))] ([IntKind.u8.wrap (x3.Key.length : Int)] : List Int) := RepL.cons (c := [.int .u8 (IntKind.u8.wrap (x3.Key.length : Int))]) (d := []) (rfl) (RepL.nil)
 replace s : St w1 M I1 ((.sl (.slice (some ⟨b5, 0, none⟩) 1 1) 5 1 1 [.int .u8 (IntKind.u8.wrap (x3.Key.length : Int))]) :: (.blk b4 (.cells #[.slice A6 x3.Key.length u6, .slice A7 x3.Val.length u7] 48 (0, 0))) :: (.sl (.slice A5 x1.length u5) 5 1 x1.length cl2) :: (.blk b1 (.cells #[.bool p0.Leaf, .slice (some ⟨b3, o1, none⟩) p0.Pairs.length u1, .slice A2 p0.Keys.length u2, .slice A3 p0.Kids.length u3] 26 (0, 0))) :: F) w8 := s.blkSl (i := 0) (n := 1) (c := 1) (size := 1) rfl rfl (Nat.le_refl _) (by decide)
 refine ⟨fun _ => ⟨_, s.pick [1, 3] 4 rfl, kS1⟩, RD.fold ?_⟩
 have hs1 := St.src s (i := 0) rfl rfl rp3
 have rq1 := rp3
 obtain ⟨x4, hx2, hf⟩ := bindS hf
 refine RD.op (i := 6) rfl (by kernel_rfl) (by kernel_rfl) (OK.app hT (r := (Rp.int .u8)) (i := 2) (t := 27) (e := 5) (size := 1) (bytes := 1) (c := u5) (n := x1.length) (m := 1) s (by kernel_rfl) rfl rfl rfl rfl rfl (by decide) rfl rfl rfl rfl rp2 hs1 rq1 flat_int rfl hx2 ?_)
 clear s
 rintro A8 u8 cl3 w9 s k7 rp4
 replace e1 := e1.st k7
 replace e4 := e4.st k7
 replace e5 := e5.st k7
 replace e2 := e2.st k7
 replace e3 := e3.st k7
 replace rp3 := rp3.st k7
 replace rp2 := rp2.st k7
 replace kk := kk.trans k7
 replace kS1 := kS1.trans k7
 refine ⟨fun _ => ⟨_, s.pick [1, 3] 4 rfl, kS1⟩, RD.fold ?_⟩
 obtain ⟨nw1, hs2, rq2⟩ := Elems.src e4
 obtain ⟨x5, hx3, hf⟩ := bindS hf
 refine RD.op (i := 9) rfl (by kernel_rfl) (by kernel_rfl) (OK.app hT (r := (Rp.int .u8)) (i := 2) (t := 27) (e := 5) (size := 1) (bytes := 1) (c := u8) (n := x4.length) (m := x3.Key.length) s (by kernel_rfl) rfl rfl rfl rfl rfl (by decide) rfl rfl rfl rfl rp4 hs2 rq2 flat_int rfl hx3 ?_)
 clear s
 rintro A9 u9 cl4 w10 s k8 rp5
 replace e1 := e1.st k8
 replace e4 := e4.st k8
 replace e5 := e5.st k8
 replace e2 := e2.st k8
 replace e3 := e3.st k8
 replace rp3 := rp3.st k8
 replace rp4 := rp4.st k8
 replace kk := kk.trans k8
 replace kS1 := kS1.trans k8
 refine ⟨fun _ => ⟨_, s.pick [1, 3] 4 rfl, kS1⟩, RD.fold ?_⟩
 refine RD.segM hT ht1 (by kernel_rfl) [10] [] [] [.slice A9 x5.length u9] [] (by kernel_rfl) (fun _ _ => trivial) ⟨_, s.pick [1, 3] 4 rfl, kS1⟩ ?_
 refine RD.done (by kernel_rfl) ?_
 have e1S2 := e1
 have e4S2 := e4
 have e5S2 := e5
 have e2S2 := e2
 have e3S2 := e3
 have rp3S2 := rp3
 have rp5S2 := rp5
 have kS2 : Kp I1 w10 I1 w10 := Kp.refl
 refine WPK.drawM (fun w' => ∃ I' : Nat → Prop, St w1 M I' ((.sl (.slice (some ⟨b5, 0, none⟩) 1 1) 5 1 1 [.int .u8 (IntKind.u8.wrap (x3.Key.length : Int))]) :: (.blk b4 (.cells #[.slice A6 x3.Key.length u6, .slice A7 x3.Val.length u7] 48 (0, 0))) :: (.blk b1 (.cells #[.bool p0.Leaf, .slice (some ⟨b3, o1, none⟩) p0.Pairs.length u1, .slice A2 p0.Keys.length u2, .slice A3 p0.Kids.length u3] 26 (0, 0))) :: F) w' ∧ Kp I1 w10 I' w') 11 [0, 0, 2, 6, 14, 30, 63, 0, 128, 511, 1023] (by kernel_rfl) (by kernel_rfl) ?_
 intro ht2 w11 hd2
 have k9 := Kp.dr s hd2
 replace s := s.dr hd2
 replace e1 := e1.st k9
 replace e4 := e4.st k9
 replace e5 := e5.st k9
 replace e2 := e2.st k9
 replace e3 := e3.st k9
 replace rp3 := rp3.st k9
 replace rp5 := rp5.st k9
 replace kk := kk.trans k9
 replace kS2 := kS2.trans k9
 refine RD.segM hT ht2 (by kernel_rfl) [0, 1, 2, 3, 4, 7, 8] [.slice A7 x3.Val.length u7, undef, .slice A7 x3.Val.length u7] [] [.slice A9 x5.length u9, .pointer (some ⟨b4, 1, none⟩), .slice A7 x3.Val.length u7, .int .i64 (x3.Val.length : Int), .int .u8 (IntKind.u8.wrap (x3.Val.length : Int)), .pointer (some ⟨b4, 1, none⟩), .slice A7 x3.Val.length u7] [.cell ⟨b4, 1, none⟩ (.slice A7 x3.Val.length u7), .cell ⟨b4, 1, none⟩ (.slice A7 x3.Val.length u7)] (by kernel_rfl) (by rintro w' ⟨I', s, k⟩; have e1 := e1S2.st k; have e4 := e4S2.st k; have e5 := e5S2.st k; have e2 := e2S2.st k; have e3 := e3S2.st k; have rp3 := rp3S2.st k; have rp5 := rp5S2.st k; exact ⟨s.cell (i := 1) (off := 1) rfl rfl, s.cell (i := 1) (off := 1) rfl rfl⟩) ⟨_, s.pick [0, 1, 3] 4 rfl, kS2⟩ ?_
 refine RD.op (i := 5) rfl (by kernel_rfl) (by kernel_rfl) (OK.new hT (f := fun b => .slice (some ⟨b, 0, none⟩) 1 1) (cs := [.int .u8 (IntKind.u8.wrap (x3.Val.length : Int))]) (e := 5) (c := .tt) s (by kernel_rfl) trivial ?_)
 clear s
 rintro w12 b6 s k10 -
 replace e1 := e1.st k10
 replace e4 := e4.st k10
 replace e5 := e5.st k10
 replace e2 := e2.st k10
 replace e3 := e3.st k10
 replace rp3 := rp3.st k10
 replace rp5 := rp5.st k10
 replace kk := kk.trans k10
 replace kS2 := kS2.trans k10
 have rp6 : RepL (Rp.int .u8) I1 w12 [.int .u8 (IntKind.u8.wrap (x3.Val.length : Int))] ([IntKind.u8.wrap (x3.Val.length : Int)] : List Int) := RepL.cons (c := [.int .u8 (IntKind.u8.wrap (x3.Val.length : Int))]) (d := []) (rfl) (RepL.nil)
 replace s : St w1 M I1 ((.sl (.slice (some ⟨b6, 0, none⟩) 1 1) 5 1 1 [.int .u8 (IntKind.u8.wrap (x3.Val.length : Int))]) :: (.sl (.slice (some ⟨b5, 0, none⟩) 1 1) 5 1 1 [.int .u8 (IntKind.u8.wrap (x3.Key.length : Int))]) :: (.blk b4 (.cells #[.slice A6 x3.Key.length u6, .slice A7 x3.Val.length u7] 48 (0, 0))) :: (.sl (.slice A9 x5.length u9) 5 1 x5.length cl4) :: (.blk b1 (.cells #[.bool p0.Leaf, .slice (some ⟨b3, o1, none⟩) p0.Pairs.length u1, .slice A2 p0.Keys.length u2, .slice A3 p0.Kids.length u3] 26 (0, 0))) :: F) w12 := s.blkSl (i := 0) (n := 1) (c := 1) (size := 1) rfl rfl (Nat.le_refl _) (by decide)
 refine ⟨fun _ => ⟨_, s.pick [1, 2, 4] 5 rfl, kS2⟩, RD.fold ?_⟩
 have hs3 := St.src s (i := 0) rfl rfl rp6
 have rq3 := rp6
 obtain ⟨x6, hx4, hf⟩ := bindS hf
 refine RD.op (i := 6) rfl (by kernel_rfl) (by kernel_rfl) (OK.app hT (r := (Rp.int .u8)) (i := 3) (t := 27) (e := 5) (size := 1) (bytes := 1) (c := u9) (n := x5.length) (m := 1) s (by kernel_rfl) rfl rfl rfl rfl rfl (by decide) rfl rfl rfl rfl rp5 hs3 rq3 flat_int rfl hx4 ?_)
 clear s
 rintro A10 u10 cl5 w13 s k11 rp7
 replace e1 := e1.st k11
 replace e4 := e4.st k11
 replace e5 := e5.st k11
 replace e2 := e2.st k11
 replace e3 := e3.st k11
 replace rp6 := rp6.st k11
 replace rp3 := rp3.st k11
 replace rp5 := rp5.st k11
 replace kk := kk.trans k11
 replace kS2 := kS2.trans k11
 refine ⟨fun _ => ⟨_, s.pick [1, 2, 4] 5 rfl, kS2⟩, RD.fold ?_⟩
 obtain ⟨nw2, hs4, rq4⟩ := Elems.src e5
 obtain ⟨x7, hx5, hf⟩ := bindS hf
 refine RD.op (i := 9) rfl (by kernel_rfl) (by kernel_rfl) (OK.app hT (r := (Rp.int .u8)) (i := 3) (t := 27) (e := 5) (size := 1) (bytes := 1) (c := u10) (n := x6.length) (m := x3.Val.length) s (by kernel_rfl) rfl rfl rfl rfl rfl (by decide) rfl rfl rfl rfl rp7 hs4 rq4 flat_int rfl hx5 ?_)
 clear s
 rintro A11 u11 cl6 w14 s k12 rp8
 replace e1 := e1.st k12
 replace e4 := e4.st k12
 replace e5 := e5.st k12
 replace e2 := e2.st k12
 replace e3 := e3.st k12
 replace rp6 := rp6.st k12
 replace rp3 := rp3.st k12
 replace rp7 := rp7.st k12
 replace kk := kk.trans k12
 replace kS2 := kS2.trans k12
 refine ⟨fun _ => ⟨_, s.pick [1, 2, 4] 5 rfl, kS2⟩, RD.fold ?_⟩
 refine RD.segM hT ht2 (by kernel_rfl) [10] [] [] [.slice A11 x7.length u11] [] (by kernel_rfl) (fun _ _ => trivial) ⟨_, s.pick [1, 2, 4] 5 rfl, kS2⟩ ?_
 refine RD.done (by kernel_rfl) ?_
 refine WPK.region ?_
 refine RW.seg hT 3 [] [] [.int .i64 x2, .int .i64 (IntKind.i64.wrap (x2 + 1)), .int .i64 (IntKind.i64.wrap (x2 + 1))] [] (by kernel_rfl) (trivial) ?_
 refine RW.nil ?_
 subst hrec1
 replace s := s.pick [3, 4] 5 rfl
 exact ⟨n2, Nat.le_refl _, fun X h => kc (by kernel_rfl) rfl (h I1 x7 (IntKind.i64.wrap (x2 + 1)) A11 u11 cl6 _ hf s kk rp8 e1 e2 e3)⟩
 have hf := iteF h2 hf
 refine WPK.condF (Eq.trans (b := .bool (decide (x2 < (p0.Pairs.length : Int)))) (by kernel_rfl) (bo_f h2)) ?_
 refine WPK.exit (blockQ.same ?_)
 refine WPK.seq ?_
 refine WPK.region ?_
 refine RW.seg hT 2 [] [] [.slice A5 x1.length u5, .slice A5 x1.length u5] [] (by kernel_rfl) (trivial) ?_
 refine RW.nil ?_
 refine WPK.ret (?_)
 obtain rfl := someS hf
 refine Fin.of (rs := [.tmp 2]) hT [] (.slice A5 x1.length u5) [] rfl (by kernel_rfl) (trivial) ?_
 replace s := s.pick [0] 2 rfl
 exact fun X h => vc rfl (h I1 A5 x1.length u5 cl2 _ s kk rfl rp2)
 have hf := iteF h1 hf
 refine WPK.condF (Eq.trans (b := .bool p0.Leaf) (by kernel_rfl) (b_f h1)) ?_
 refine WPK.skip ?_
 refine WPK.seq ?_
 have e1S3 := e1
 have e2S3 := e2
 have e3S3 := e3
 have kS3 : Kp I w2 I w2 := Kp.refl
 refine WPK.drawM (fun w' => ∃ I' : Nat → Prop, St w1 M I' ((.blk b1 (.cells #[.bool p0.Leaf, .slice A1 p0.Pairs.length u1, .slice A2 p0.Keys.length u2, .slice A3 p0.Kids.length u3] 26 (0, 0))) :: F) w' ∧ Kp I w2 I' w') 18 [0, 1, 3, 7, 0, 16, 48, 112, 240, 496, 0, 1024, 3072, 7168, 15360, 31744, 65535, 131071] (by kernel_rfl) (by kernel_rfl) ?_
 intro ht3 w15 hd3
 have k13 := Kp.dr s hd3
 replace s := s.dr hd3
 replace e1 := e1.st k13
 replace e2 := e2.st k13
 replace e3 := e3.st k13
 replace kk := kk.trans k13
 replace kS3 := kS3.trans k13
 obtain ⟨x8, hx6, hf⟩ := bindS hf
 obtain ⟨h4, hx6⟩ := getS hx6
 obtain ⟨b7, o2, rfl⟩ := Elems.opn e3 hx6
 obtain ⟨cs4, hr4, ha2, hb1⟩ := Elems.getI e3S3 hx6
 obtain rfl : cs4 = [.int .i64 x8] := hr4
 obtain ⟨x9, hx7, hf⟩ := bindS hf
 obtain ⟨h5, hx7⟩ := getS hx7
 obtain ⟨cs5, hr5, ha3, hb2⟩ := Elems.getI e3S3 hx7
 obtain rfl : cs5 = [.int .i64 x9] := hr5
 refine RD.segM hT ht3 (by kernel_rfl) [0, 1, 2, 3, 4, 5, 6, 7, 8, 9, 10, 11, 12, 13, 14, 15] [.slice A2 p0.Keys.length u2, undef, .slice (some ⟨b7, o2, none⟩) p0.Kids.length u3, .int .i64 x8, undef, .slice (some ⟨b7, o2, none⟩) p0.Kids.length u3, .int .i64 x9, undef] [] [.pointer (some ⟨b1, 2, none⟩), .slice A2 p0.Keys.length u2, .int .i64 (p0.Keys.length : Int), .int .u8 (IntKind.u8.wrap (p0.Keys.length : Int)), .pointer (some ⟨b1, 3, none⟩), .slice (some ⟨b7, o2, none⟩) p0.Kids.length u3, .pointer (some ⟨b7, o2 + (0 : Int).toNat * 1, none⟩), .int .i64 x8, .int .i64 (IntKind.i64.wrap (Int.tdiv x8 256)), .int .u8 (IntKind.u8.wrap (IntKind.i64.wrap (Int.tdiv x8 256))), .pointer (some ⟨b1, 3, none⟩), .slice (some ⟨b7, o2, none⟩) p0.Kids.length u3, .pointer (some ⟨b7, o2 + (0 : Int).toNat * 1, none⟩), .int .i64 x9, .int .i64 (Int.tmod x9 256), .int .u8 (IntKind.u8.wrap (Int.tmod x9 256))] [.cell ⟨b1, 2, none⟩ (.slice A2 p0.Keys.length u2), .cell ⟨b1, 3, none⟩ (.slice (some ⟨b7, o2, none⟩) p0.Kids.length u3), .idx 0 p0.Kids.length, .cell ⟨b7, o2 + (0 : Int).toNat * 1, none⟩ (.int .i64 x8), .ne0 256, .cell ⟨b1, 3, none⟩ (.slice (some ⟨b7, o2, none⟩) p0.Kids.length u3), .idx 0 p0.Kids.length, .cell ⟨b7, o2 + (0 : Int).toNat * 1, none⟩ (.int .i64 x9), .ne0 256] (by kernel_rfl) (by rintro w' ⟨I', s, k⟩; have e1 := e1S3.st k; have e2 := e2S3.st k; have e3 := e3S3.st k; have ha2 := ha2.st k hb1; have ha3 := ha3.st k hb2; exact ⟨s.cell (i := 0) (off := 2) rfl rfl, s.cell (i := 0) (off := 3) rfl rfl, h4, ha2 0 _ rfl, (show (256 : Int) ≠ 0 by decide), s.cell (i := 0) (off := 3) rfl rfl, h5, ha3 0 _ rfl, (show (256 : Int) ≠ 0 by decide)⟩) ⟨_, s.pick [0] 1 rfl, kS3⟩ ?_
 refine RD.op (i := 16) rfl (by kernel_rfl) (by kernel_rfl) (OK.new hT (f := fun b => .slice (some ⟨b, 0, none⟩) 3 3) (cs := [.int .u8 (IntKind.u8.wrap (p0.Keys.length : Int)), .int .u8 (IntKind.u8.wrap (IntKind.i64.wrap (Int.tdiv x8 256))), .int .u8 (IntKind.u8.wrap (Int.tmod x9 256))]) (e := 5) (c := .tt) s (by kernel_rfl) trivial ?_)
 clear s
 rintro w16 b8 s k14 -
 replace e1 := e1.st k14
 replace e2 := e2.st k14
 replace e3 := e3.st k14
 replace kk := kk.trans k14
 replace kS3 := kS3.trans k14
 have rp9 : RepL (Rp.int .u8) I w16 [.int .u8 (IntKind.u8.wrap (p0.Keys.length : Int)), .int .u8 (IntKind.u8.wrap (IntKind.i64.wrap (Int.tdiv x8 256))), .int .u8 (IntKind.u8.wrap (Int.tmod x9 256))] ([IntKind.u8.wrap (p0.Keys.length : Int), IntKind.u8.wrap (IntKind.i64.wrap (Int.tdiv x8 256)), IntKind.u8.wrap (Int.tmod x9 256)] : List Int) := RepL.cons (c := [.int .u8 (IntKind.u8.wrap (p0.Keys.length : Int))]) (d := [.int .u8 (IntKind.u8.wrap (IntKind.i64.wrap (Int.tdiv x8 256))), .int .u8 (IntKind.u8.wrap (Int.tmod x9 256))]) (rfl) (RepL.cons (c := [.int .u8 (IntKind.u8.wrap (IntKind.i64.wrap (Int.tdiv x8 256)))]) (d := [.int .u8 (IntKind.u8.wrap (Int.tmod x9 256))]) (rfl) (RepL.cons (c := [.int .u8 (IntKind.u8.wrap (Int.tmod x9 256))]) (d := []) (rfl) (RepL.nil)))
 replace s : St w1 M I ((.sl (.slice (some ⟨b8, 0, none⟩) 3 3) 5 1 3 [.int .u8 (IntKind.u8.wrap (p0.Keys.length : Int)), .int .u8 (IntKind.u8.wrap (IntKind.i64.wrap (Int.tdiv x8 256))), .int .u8 (IntKind.u8.wrap (Int.tmod x9 256))]) :: (.blk b1 (.cells #[.bool p0.Leaf, .slice A1 p0.Pairs.length u1, .slice A2 p0.Keys.length u2, .slice (some ⟨b7, o2, none⟩) p0.Kids.length u3] 26 (0, 0))) :: F) w16 := s.blkSl (i := 0) (n := 3) (c := 3) (size := 1) rfl rfl (Nat.le_refl _) (by decide)
 refine ⟨fun _ => ⟨_, s.pick [1] 2 rfl, kS3⟩, RD.fold ?_⟩
 refine RD.segM hT ht3 (by kernel_rfl) [17] [] [] [.slice (some ⟨b8, 0, none⟩) 3 3] [] (by kernel_rfl) (fun _ _ => trivial) ⟨_, s.pick [1] 2 rfl, kS3⟩ ?_
 refine RD.done (by kernel_rfl) ?_
 refine WPK.seq ?_
 refine WPK.seq ?_
 refine WPK.region ?_
 refine RW.seg hT 1 [] [] [.int .i64 0] [] (by kernel_rfl) (trivial) ?_
 refine RW.nil ?_
 refine WPK.block ?_
 refine WPK.loop' (J := fun n3 D2 ds wz => ∀ X : Kont, (∀ (I2 : Nat → Prop) (x10 : (List Int)) (x11 : Int) (A12 : Option Addr) (u12 : Nat) (cl7 : List Value) (w' : World), g61_l2 p0 n3 x10 x11 = some r → St w1 M I2 ((.sl (.slice A12 x10.length u12) 5 1 x10.length cl7) :: (.blk b1 (.cells #[.bool p0.Leaf, .slice A1 p0.Pairs.length u1, .slice A2 p0.Keys.length u2, .slice (some ⟨b7, o2, none⟩) p0.Kids.length u3] 26 (0, 0))) :: F) w' → Kp I w I2 w' → RepL (Rp.int .u8) I2 w' cl7 x10 → Elems rp_T_api_Pair I2 w' A1 p0.Pairs → Elems (Rp.slice (Rp.int .u8)) I2 w' A2 p0.Keys → Elems (Rp.int .i64) I2 w' (some ⟨b7, o2, none⟩) p0.Kids → X [(gd D2 0), .pointer (some ⟨b1, 0, none⟩), .slice none 0 0, (gd D2 3), (gd D2 4), (gd D2 5), .slice A12 x10.length u12, .int .i64 x11, (gd D2 8), (gd D2 9), (gd D2 10), (gd D2 11), (gd D2 12), (gd D2 13), (gd D2 14), (gd D2 15), (gd D2 16), (gd D2 17), (gd D2 18), (gd D2 19), (gd D2 20), (gd D2 21), (gd D2 22), (gd D2 23), (gd D2 24), (gd D2 25), (gd D2 26), (gd D2 27), (gd D2 28), (gd D2 29), (gd D2 30), (gd D2 31), (gd D2 32), (gd D2 33), (gd D2 34), (gd D2 35), (gd D2 36), (gd D2 37), (gd D2 38), (gd D2 39), (gd D2 40), (gd D2 41), (gd D2 42), (gd D2 43), (gd D2 44), (gd D2 45), (gd D2 46), (gd D2 47), (gd D2 48), (gd D2 49), (gd D2 50), (gd D2 51), (gd D2 52), (gd D2 53), (gd D2 54), (gd D2 55), (gd D2 56), (gd D2 57), (gd D2 58), (gd D2 59), (gd D2 60), (gd D2 61), (gd D2 62), (gd D2 63), (gd D2 64), (gd D2 65), (gd D2 66), (gd D2 67), (gd D2 68), (gd D2 69), (gd D2 70), (gd D2 71), (gd D2 72), (gd D2 73), (gd D2 74), (gd D2 75), (gd D2 76), (gd D2 77), (gd D2 78), (gd D2 79), (gd D2 80), (gd D2 81), (gd D2 82), (gd D2 83), (gd D2 84), (gd D2 85), (gd D2 86), (gd D2 87), (gd D2 88), (gd D2 89), (gd D2 90), (gd D2 91), (gd D2 92), (gd D2 93), (gd D2 94), (gd D2 95), (gd D2 96), (gd D2 97), (gd D2 98), (gd D2 99), (gd D2 100), (gd D2 101), (gd D2 102), (gd D2 103), (gd D2 104), (gd D2 105), (gd D2 106), undef] [] w') → X D2 ds wz) FUEL (fun X h => kc (by kernel_rfl) rfl (h I ([IntKind.u8.wrap (p0.Keys.length : Int), IntKind.u8.wrap (IntKind.i64.wrap (Int.tdiv x8 256)), IntKind.u8.wrap (Int.tmod x9 256)] : List Int) 0 (some ⟨b8, 0, none⟩) 3 [.int .u8 (IntKind.u8.wrap (p0.Keys.length : Int)), .int .u8 (IntKind.u8.wrap (IntKind.i64.wrap (Int.tdiv x8 256))), .int .u8 (IntKind.u8.wrap (Int.tmod x9 256))] _ hf s kk rp9 e1 e2 e3)) (fun _ _ _ hJ => hJ (fun _ _ _ => False) (by intro I2 x10 x11 A12 u12 cl7 w17 hf s kk rp10 e1 e2 e3; exact noneS hf)) ?_
 intro X2 hX2
 refine fun n3 D2 _ _ hJ => hJ (X2 n3) ?_
 clear s
 intro I2 x10 x11 A12 u12 cl7 w17 hf s kk rp10 e1 e2 e3
 refine hX2 _ _ _ _ ?_
 replace hf : g61_l2B p0 (g61_l2 p0 n3) x10 x11 = some r := hf
 generalize hrec2 : g61_l2 p0 n3 = rec2 at hf
 unfold g61_l2B at hf
 refine WPK.seq ?_
 refine WPK.seq ?_
 refine WPK.region ?_
 refine RW.seg hT 5 [.slice A2 p0.Keys.length u2] [] [.int .i64 x11, .pointer (some ⟨b1, 2, none⟩), .slice A2 p0.Keys.length u2, .int .i64 (p0.Keys.length : Int), .bool (decide (x11 < (p0.Keys.length : Int)))] [.cell ⟨b1, 2, none⟩ (.slice A2 p0.Keys.length u2)] (by kernel_rfl) (s.cell (i := 1) (off := 2) rfl rfl) ?_
 refine RW.nil ?_
 by_cases h6 : x11 < (p0.Keys.length : Int)
 have hf := iteT h6 hf
 refine WPK.condT (Eq.trans (b := .bool (decide (x11 < (p0.Keys.length : Int)))) (by kernel_rfl) (bo_t h6)) ?_
 refine WPK.skip ?_
 refine WPK.seq ?_
 refine WPK.block ?_
 refine WPK.seq ?_
 have e2S4 := e2
 have e1S4 := e1
 have e3S4 := e3
 have rp10S4 := rp10
 have kS4 : Kp I2 w17 I2 w17 := Kp.refl
 refine WPK.drawM (fun w' => ∃ I' : Nat → Prop, St w1 M I' ((.blk b1 (.cells #[.bool p0.Leaf, .slice A1 p0.Pairs.length u1, .slice A2 p0.Keys.length u2, .slice (some ⟨b7, o2, none⟩) p0.Kids.length u3] 26 (0, 0))) :: F) w' ∧ Kp I2 w17 I' w') 17 [0, 0, 2, 0, 14, 30, 62, 126, 254, 511, 0, 1024, 0, 7168, 15360, 32767, 65535] (by kernel_rfl) (by kernel_rfl) ?_
 intro ht4 w18 hd4
 have k15 := Kp.dr s hd4
 replace s := s.dr hd4
 replace e2 := e2.st k15
 replace e1 := e1.st k15
 replace e3 := e3.st k15
 replace rp10 := rp10.st k15
 replace kk := kk.trans k15
 replace kS4 := kS4.trans k15
 obtain ⟨x12, hx8, hf⟩ := bindS hf
 obtain ⟨h7, hx8⟩ := getS hx8
 obtain ⟨b9, o3, rfl⟩ := Elems.opn e2 hx8
 obtain ⟨cs6, hr6, ha4, hb3⟩ := Elems.getI e2S4 hx8
 obtain ⟨A13, u13, rfl, q5, q6, e6⟩ := hr6
 have hc6 := And.intro q5 q6
 have e6S4 := e6
 replace e6 := e6.st kS4
 obtain ⟨x13, hx9, hf⟩ := bindS hf
 obtain ⟨h8, hx9⟩ := getS hx9
 obtain ⟨cs7, hr7, ha5, hb4⟩ := Elems.getI e2S4 hx9
 obtain ⟨A14, u14, rfl, q7, q8, e7⟩ := hr7
 have hc7 := And.intro q7 q8
 have e7S4 := e7
 replace e7 := e7.st kS4
 refine RD.segM hT ht4 (by kernel_rfl) [0, 1, 2, 3, 4, 5, 6, 7, 10, 11, 12, 13, 14] [.slice (some ⟨b9, o3, none⟩) p0.Keys.length u2, .slice A13 x12.length u13, undef, .slice (some ⟨b9, o3, none⟩) p0.Keys.length u2, .slice A14 x13.length u14] [] [.slice A12 x10.length u12, .pointer (some ⟨b1, 2, none⟩), .slice (some ⟨b9, o3, none⟩) p0.Keys.length u2, .int .i64 x11, .pointer (some ⟨b9, o3 + x11.toNat * 1, none⟩), .slice A13 x12.length u13, .int .i64 (x12.length : Int), .int .u8 (IntKind.u8.wrap (x12.length : Int)), .pointer (some ⟨b1, 2, none⟩), .slice (some ⟨b9, o3, none⟩) p0.Keys.length u2, .int .i64 x11, .pointer (some ⟨b9, o3 + x11.toNat * 1, none⟩), .slice A14 x13.length u14] [.cell ⟨b1, 2, none⟩ (.slice (some ⟨b9, o3, none⟩) p0.Keys.length u2), .idx x11 p0.Keys.length, .cell ⟨b9, o3 + x11.toNat * 1, none⟩ (.slice A13 x12.length u13), .cell ⟨b1, 2, none⟩ (.slice (some ⟨b9, o3, none⟩) p0.Keys.length u2), .idx x11 p0.Keys.length, .cell ⟨b9, o3 + x11.toNat * 1, none⟩ (.slice A14 x13.length u14)] (by kernel_rfl) (by rintro w' ⟨I', s, k⟩; have e2 := e2S4.st k; have e1 := e1S4.st k; have e3 := e3S4.st k; have rp10 := rp10S4.st k; have e6 := e6S4.st k; have e7 := e7S4.st k; have ha4 := ha4.st k hb3; have ha5 := ha5.st k hb4; exact ⟨s.cell (i := 0) (off := 2) rfl rfl, h7, ha4 0 _ rfl, s.cell (i := 0) (off := 2) rfl rfl, h8, ha5 0 _ rfl⟩) ⟨_, s.pick [1] 2 rfl, kS4⟩ ?_
 refine RD.op (i := 8) rfl (by kernel_rfl) (by kernel_rfl) (OK.new hT (f := fun b => .slice (some ⟨b, 0, none⟩) 1 1) (cs := [.int .u8 (IntKind.u8.wrap (x12.length : Int))]) (e := 5) (c := .tt) s (by kernel_rfl) trivial ?_)
 clear s
 rintro w19 b10 s k16 -
 replace e2 := e2.st k16
 replace e6 := e6.st k16
 replace e7 := e7.st k16
 replace e1 := e1.st k16
 replace e3 := e3.st k16
 replace rp10 := rp10.st k16
 replace kk := kk.trans k16
 replace kS4 := kS4.trans k16
 have rp11 : RepL (Rp.int .u8) I2 w19 [.int .u8 (IntKind.u8.wrap (x12.length : Int))] ([IntKind.u8.wrap (x12.length : Int)] : List Int) := RepL.cons (c := [.int .u8 (IntKind.u8.wrap (x12.length : Int))]) (d := []) (rfl) (RepL.nil)
 replace s : St w1 M I2 ((.sl (.slice (some ⟨b10, 0, none⟩) 1 1) 5 1 1 [.int .u8 (IntKind.u8.wrap (x12.length : Int))]) :: (.sl (.slice A12 x10.length u12) 5 1 x10.length cl7) :: (.blk b1 (.cells #[.bool p0.Leaf, .slice A1 p0.Pairs.length u1, .slice (some ⟨b9, o3, none⟩) p0.Keys.length u2, .slice (some ⟨b7, o2, none⟩) p0.Kids.length u3] 26 (0, 0))) :: F) w19 := s.blkSl (i := 0) (n := 1) (c := 1) (size := 1) rfl rfl (Nat.le_refl _) (by decide)
 refine ⟨fun _ => ⟨_, s.pick [2] 3 rfl, kS4⟩, RD.fold ?_⟩
 have hs5 := St.src s (i := 0) rfl rfl rp11
 have rq5 := rp11
 obtain ⟨x14, hx10, hf⟩ := bindS hf
 refine RD.op (i := 9) rfl (by kernel_rfl) (by kernel_rfl) (OK.app hT (r := (Rp.int .u8)) (i := 1) (t := 27) (e := 5) (size := 1) (bytes := 1) (c := u12) (n := x10.length) (m := 1) s (by kernel_rfl) rfl rfl rfl rfl rfl (by decide) rfl rfl rfl rfl rp10 hs5 rq5 flat_int rfl hx10 ?_)
 clear s
 rintro A15 u15 cl8 w20 s k17 rp12
 replace e2 := e2.st k17
 replace e6 := e6.st k17
 replace e7 := e7.st k17
 replace e1 := e1.st k17
 replace e3 := e3.st k17
 replace rp11 := rp11.st k17
 replace rp10 := rp10.st k17
 replace kk := kk.trans k17
 replace kS4 := kS4.trans k17
 refine ⟨fun _ => ⟨_, s.pick [2] 3 rfl, kS4⟩, RD.fold ?_⟩
 obtain ⟨nw3, hs6, rq6⟩ := Elems.src e7
 obtain ⟨x15, hx11, hf⟩ := bindS hf
 refine RD.op (i := 15) rfl (by kernel_rfl) (by kernel_rfl) (OK.app hT (r := (Rp.int .u8)) (i := 1) (t := 27) (e := 5) (size := 1) (bytes := 1) (c := u15) (n := x14.length) (m := x13.length) s (by kernel_rfl) rfl rfl rfl rfl rfl (by decide) rfl rfl rfl rfl rp12 hs6 rq6 flat_int rfl hx11 ?_)
 clear s
 rintro A16 u16 cl9 w21 s k18 rp13
 replace e2 := e2.st k18
 replace e6 := e6.st k18
 replace e7 := e7.st k18
 replace e1 := e1.st k18
 replace e3 := e3.st k18
 replace rp11 := rp11.st k18
 replace rp12 := rp12.st k18
 replace kk := kk.trans k18
 replace kS4 := kS4.trans k18
 refine ⟨fun _ => ⟨_, s.pick [2] 3 rfl, kS4⟩, RD.fold ?_⟩
 refine RD.segM hT ht4 (by kernel_rfl) [16] [] [] [.slice A16 x15.length u16] [] (by kernel_rfl) (fun _ _ => trivial) ⟨_, s.pick [2] 3 rfl, kS4⟩ ?_
 refine RD.done (by kernel_rfl) ?_
 have e2S5 := e2
 have e6S5 := e6
 have e7S5 := e7
 have e1S5 := e1
 have e3S5 := e3
 have rp11S5 := rp11
 have rp13S5 := rp13
 have kS5 : Kp I2 w21 I2 w21 := Kp.refl
 refine WPK.drawM (fun w' => ∃ I' : Nat → Prop, St w1 M I' ((.sl (.slice (some ⟨b10, 0, none⟩) 1 1) 5 1 1 [.int .u8 (IntKind.u8.wrap (x12.length : Int))]) :: (.sl (.slice A16 x15.length u16) 5 1 x15.length cl9) :: (.blk b1 (.cells #[.bool p0.Leaf, .slice A1 p0.Pairs.length u1, .slice (some ⟨b9, o3, none⟩) p0.Keys.length u2, .slice (some ⟨b7, o2, none⟩) p0.Kids.length u3] 26 (0, 0))) :: F) w' ∧ Kp I2 w21 I' w') 18 [0, 0, 2, 0, 8, 30, 62, 126, 254, 0, 512, 0, 2048, 7680, 15872, 32256, 65024, 131070, 262143, 524287] (by kernel_rfl) (by kernel_rfl) ?_
 intro ht5 w22 hd5
 have k19 := Kp.dr s hd5
 replace s := s.dr hd5
 replace e2 := e2.st k19
 replace e6 := e6.st k19
 replace e7 := e7.st k19
 replace e1 := e1.st k19
 replace e3 := e3.st k19
 replace rp11 := rp11.st k19
 replace rp13 := rp13.st k19
 replace kk := kk.trans k19
 replace kS5 := kS5.trans k19
 obtain ⟨x16, hx12, hf⟩ := bindS hf
 obtain ⟨h9, hx12⟩ := getS hx12
 obtain ⟨cs8, hr8, ha6, hb5⟩ := Elems.getI e3S5 hx12
 obtain rfl : cs8 = [.int .i64 x16] := hr8
 obtain ⟨x17, hx13, hf⟩ := bindS hf
 obtain ⟨h10, hx13⟩ := getS hx13
 obtain ⟨cs9, hr9, ha7, hb6⟩ := Elems.getI e3S5 hx13
 obtain rfl : cs9 = [.int .i64 x17] := hr9
 refine RD.segM hT ht5 (by kernel_rfl) [0, 1, 2, 3, 4, 5, 6, 7, 8, 9, 10, 11, 12, 13, 14, 15, 16] [.slice (some ⟨b7, o2, none⟩) p0.Kids.length u3, .int .i64 x16, undef, .slice (some ⟨b7, o2, none⟩) p0.Kids.length u3, .int .i64 x17, undef] [] [.slice A16 x15.length u16, .pointer (some ⟨b1, 3, none⟩), .slice (some ⟨b7, o2, none⟩) p0.Kids.length u3, .int .i64 x11, .int .i64 (IntKind.i64.wrap (x11 + 1)), .pointer (some ⟨b7, o2 + (IntKind.i64.wrap (x11 + 1)).toNat * 1, none⟩), .int .i64 x16, .int .i64 (IntKind.i64.wrap (Int.tdiv x16 256)), .int .u8 (IntKind.u8.wrap (IntKind.i64.wrap (Int.tdiv x16 256))), .pointer (some ⟨b1, 3, none⟩), .slice (some ⟨b7, o2, none⟩) p0.Kids.length u3, .int .i64 x11, .int .i64 (IntKind.i64.wrap (x11 + 1)), .pointer (some ⟨b7, o2 + (IntKind.i64.wrap (x11 + 1)).toNat * 1, none⟩), .int .i64 x17, .int .i64 (Int.tmod x17 256), .int .u8 (IntKind.u8.wrap (Int.tmod x17 256))] [.cell ⟨b1, 3, none⟩ (.slice (some ⟨b7, o2, none⟩) p0.Kids.length u3), .idx (IntKind.i64.wrap (x11 + 1)) p0.Kids.length, .cell ⟨b7, o2 + (IntKind.i64.wrap (x11 + 1)).toNat * 1, none⟩ (.int .i64 x16), .ne0 256, .cell ⟨b1, 3, none⟩ (.slice (some ⟨b7, o2, none⟩) p0.Kids.length u3), .idx (IntKind.i64.wrap (x11 + 1)) p0.Kids.length, .cell ⟨b7, o2 + (IntKind.i64.wrap (x11 + 1)).toNat * 1, none⟩ (.int .i64 x17), .ne0 256] (by kernel_rfl) (by rintro w' ⟨I', s, k⟩; have e2 := e2S5.st k; have e6 := e6S5.st k; have e7 := e7S5.st k; have e1 := e1S5.st k; have e3 := e3S5.st k; have rp11 := rp11S5.st k; have rp13 := rp13S5.st k; have ha6 := ha6.st k hb5; have ha7 := ha7.st k hb6; exact ⟨s.cell (i := 2) (off := 3) rfl rfl, h9, ha6 0 _ rfl, (show (256 : Int) ≠ 0 by decide), s.cell (i := 2) (off := 3) rfl rfl, h10, ha7 0 _ rfl, (show (256 : Int) ≠ 0 by decide)⟩) ⟨_, s.pick [0, 1, 2] 3 rfl, kS5⟩ ?_
 refine RD.op (i := 17) rfl (by kernel_rfl) (by kernel_rfl) (OK.new hT (f := fun b => .slice (some ⟨b, 0, none⟩) 2 2) (cs := [.int .u8 (IntKind.u8.wrap (IntKind.i64.wrap (Int.tdiv x16 256))), .int .u8 (IntKind.u8.wrap (Int.tmod x17 256))]) (e := 5) (c := .tt) s (by kernel_rfl) trivial ?_)
 clear s
 rintro w23 b11 s k20 -
 replace e2 := e2.st k20
 replace e6 := e6.st k20
 replace e7 := e7.st k20
 replace e3 := e3.st k20
 replace e1 := e1.st k20
 replace rp11 := rp11.st k20
 replace rp13 := rp13.st k20
 replace kk := kk.trans k20
 replace kS5 := kS5.trans k20
 have rp14 : RepL (Rp.int .u8) I2 w23 [.int .u8 (IntKind.u8.wrap (IntKind.i64.wrap (Int.tdiv x16 256))), .int .u8 (IntKind.u8.wrap (Int.tmod x17 256))] ([IntKind.u8.wrap (IntKind.i64.wrap (Int.tdiv x16 256)), IntKind.u8.wrap (Int.tmod x17 256)] : List Int) := RepL.cons (c := [.int .u8 (IntKind.u8.wrap (IntKind.i64.wrap (Int.tdiv x16 256)))]) (d := [.int .u8 (IntKind.u8.wrap (Int.tmod x17 256))]) (rfl) (RepL.cons (c := [.int .u8 (IntKind.u8.wrap (Int.tmod x17 256))]) (d := []) (rfl) (RepL.nil))
 replace s : St w1 M I2 ((.sl (.slice (some ⟨b11, 0, none⟩) 2 2) 5 1 2 [.int .u8 (IntKind.u8.wrap (IntKind.i64.wrap (Int.tdiv x16 256))), .int .u8 (IntKind.u8.wrap (Int.tmod x17 256))]) :: (.sl (.slice (some ⟨b10, 0, none⟩) 1 1) 5 1 1 [.int .u8 (IntKind.u8.wrap (x12.length : Int))]) :: (.sl (.slice A16 x15.length u16) 5 1 x15.length cl9) :: (.blk b1 (.cells #[.bool p0.Leaf, .slice A1 p0.Pairs.length u1, .slice (some ⟨b9, o3, none⟩) p0.Keys.length u2, .slice (some ⟨b7, o2, none⟩) p0.Kids.length u3] 26 (0, 0))) :: F) w23 := s.blkSl (i := 0) (n := 2) (c := 2) (size := 1) rfl rfl (Nat.le_refl _) (by decide)
 refine ⟨fun _ => ⟨_, s.pick [1, 2, 3] 4 rfl, kS5⟩, RD.fold ?_⟩
 have hs7 := St.src s (i := 0) rfl rfl rp14
 have rq7 := rp14
 obtain ⟨x18, hx14, hf⟩ := bindS hf
 refine RD.op (i := 18) rfl (by kernel_rfl) (by kernel_rfl) (OK.app hT (r := (Rp.int .u8)) (i := 2) (t := 27) (e := 5) (size := 1) (bytes := 1) (c := u16) (n := x15.length) (m := 2) s (by kernel_rfl) rfl rfl rfl rfl rfl (by decide) rfl rfl rfl rfl rp13 hs7 rq7 flat_int rfl hx14 ?_)
 clear s
 rintro A17 u17 cl10 w24 s k21 rp15
 replace e2 := e2.st k21
 replace e6 := e6.st k21
 replace e7 := e7.st k21
 replace e3 := e3.st k21
 replace e1 := e1.st k21
 replace rp14 := rp14.st k21
 replace rp11 := rp11.st k21
 replace rp13 := rp13.st k21
 replace kk := kk.trans k21
 replace kS5 := kS5.trans k21
 refine ⟨fun h => absurd h (by decide), RD.fold ?_⟩
 refine RD.op (i := 19) rfl (by kernel_rfl) (by kernel_rfl) (OK.pure hT (ld := undef) (v := .slice A17 x18.length u17) (c := .tt) (by kernel_rfl) (trivial) ?_)
 refine ⟨fun h => absurd h (by decide), RD.fold ?_⟩
 refine RD.done (by kernel_rfl) ?_
 refine WPK.region ?_
 refine RW.seg hT 3 [] [] [.int .i64 x11, .int .i64 (IntKind.i64.wrap (x11 + 1)), .int .i64 (IntKind.i64.wrap (x11 + 1))] [] (by kernel_rfl) (trivial) ?_
 refine RW.nil ?_
 subst hrec2
 replace s := s.pick [2, 3] 4 rfl
 exact ⟨n3, Nat.le_refl _, fun X h => kc (by kernel_rfl) rfl (h I2 x18 (IntKind.i64.wrap (x11 + 1)) A17 u17 cl10 _ hf s kk rp15 e1 e2 e3)⟩
 have hf := iteF h6 hf
 refine WPK.condF (Eq.trans (b := .bool (decide (x11 < (p0.Keys.length : Int)))) (by kernel_rfl) (bo_f h6)) ?_
 refine WPK.exit (blockQ.same ?_)
 refine WPK.seq ?_
 refine WPK.region ?_
 refine RW.seg hT 2 [] [] [.slice A12 x10.length u12, .slice A12 x10.length u12] [] (by kernel_rfl) (trivial) ?_
 refine RW.nil ?_
 refine WPK.ret (?_)
 obtain rfl := someS hf
 refine Fin.of (rs := [.tmp 2]) hT [] (.slice A12 x10.length u12) [] rfl (by kernel_rfl) (trivial) ?_
 replace s := s.pick [0] 2 rfl
 exact fun X h => vc rfl (h I2 A12 x10.length u12 cl7 _ s kk rfl rp10)
theorem c28 {w1 w : World} {M I : Nat → Prop} {F : List It} (p0 : T_api_Node) (A1 : Option Addr) (u1 : Nat) (A2 : Option Addr) (u2 : Nat) (A3 : Option Addr) (u3 : Nat) (hc1 : (p0.Pairs.length ≤ u1 ∧ u1 ≤ 9223372036854775807)) (e1 : Elems rp_T_api_Pair I w A1 p0.Pairs) (hc2 : (p0.Keys.length ≤ u2 ∧ u2 ≤ 9223372036854775807)) (e2 : Elems (Rp.slice (Rp.int .u8)) I w A2 p0.Keys) (hc3 : (p0.Kids.length ≤ u3 ∧ u3 ≤ 9223372036854775807)) (e3 : Elems (Rp.int .i64) I w A3 p0.Kids) (s : St w1 M I (F) w) {r : Int} (hf : g28 p0 = some r) :
   Ret Try.prog 28 [.agg #[.bool p0.Leaf, .slice A1 p0.Pairs.length u1, .slice A2 p0.Keys.length u2, .slice A3 p0.Kids.length u3]] w fun v wz => ∀ X : Value → World → Prop, (∀ (I' : Nat → Prop) (w' : World), St w1 M I' (F) w' → Kp I w I' w' → X (.int .i64 r) w') → X v wz := by
 have kk : Kp I w I w := Kp.refl
 unfold g28 at hf
 refine Ret.of Try.func28 rfl ?_
 refine WPK.seq ?_
 refine WPK.region ?_
 refine RW.op (by kernel_rfl) (OK.new hT (f := fun b => .pointer (some ⟨b, 0, none⟩)) (cs := [.bool p0.Leaf, .slice A1 p0.Pairs.length u1, .slice A2 p0.Keys.length u2, .slice A3 p0.Kids.length u3]) (e := 26) (c := .tt) s (by kernel_rfl) trivial ?_)
 clear s
 rintro w2 b1 s k1 -
 replace e1 := e1.st k1
 replace e2 := e2.st k1
 replace e3 := e3.st k1
 replace kk := kk.trans k1
 refine RW.seg hT 1 [] [] [.int .i64 0] [] (by kernel_rfl) (trivial) ?_
 refine RW.nil ?_
 refine WPK.seq ?_
 refine WPK.seq ?_
 refine WPK.region ?_
 refine RW.seg hT 1 [.agg #[.bool p0.Leaf, .slice A1 p0.Pairs.length u1, .slice A2 p0.Keys.length u2, .slice A3 p0.Kids.length u3]] [] [.agg #[.bool p0.Leaf, .slice A1 p0.Pairs.length u1, .slice A2 p0.Keys.length u2, .slice A3 p0.Kids.length u3]] [.cells ⟨b1, 0, none⟩ [.bool p0.Leaf, .slice A1 p0.Pairs.length u1, .slice A2 p0.Keys.length u2, .slice A3 p0.Kids.length u3] 4] (by kernel_rfl) (s.cells (i := 0) rfl rfl rfl) ?_
 obtain ⟨x1, hx1, hf⟩ := bindS hf
 refine RW.op (by kernel_rfl) (OK.call' en18 (by kernel_rfl) (c18 (F := (.blk b1 (.cells #[.bool p0.Leaf, .slice A1 p0.Pairs.length u1, .slice A2 p0.Keys.length u2, .slice A3 p0.Kids.length u3] 26 (0, 0))) :: F) p0 A1 u1 A2 u2 A3 u3 hc1 e1 hc2 e2 hc3 e3 s hx1) ?_)
 intro X1 hX1
 refine fun _ _ hJ => hJ X1 ?_
 clear s
 intro I1 w3 s k2
 refine hX1 _ _ ?_
 replace e1 := e1.st k2
 replace e2 := e2.st k2
 replace e3 := e3.st k2
 replace kk := kk.trans k2
 refine RW.seg hT 1 [] [(5, .bool (decide (¬ (x1 = true))))] [.bool (decide (¬ (x1 = true)))] [.veq (.bool (!x1)) (.bool (decide (¬ (x1 = true))))] (by kernel_rfl) (not_b) ?_
 refine RW.nil ?_
 by_cases h1 : ¬ (x1 = true)
 have hf := iteT h1 hf
 refine WPK.condT (Eq.trans (b := .bool (decide (¬ (x1 = true)))) (by kernel_rfl) (bo_t h1)) ?_
 refine WPK.seq ?_
 refine WPK.region ?_
 refine RW.seg hT 1 [] [] [.int .i64 0] [] (by kernel_rfl) (trivial) ?_
 refine RW.nil ?_
 refine WPK.ret (?_)
 obtain rfl := someS hf
 refine Fin.of (rs := [.tmp 2]) hT [] (.int .i64 0) [] rfl (by kernel_rfl) (trivial) ?_
 replace s := s.pick [] 1 rfl
 exact fun X h => vc rfl (h I1 _ s kk)
 have hf := iteF h1 hf
 refine WPK.condF (Eq.trans (b := .bool (decide (¬ (x1 = true)))) (by kernel_rfl) (bo_f h1)) ?_
 refine WPK.skip ?_
 refine WPK.seq ?_
 refine WPK.region ?_
 refine RW.seg hT 1 [.agg #[.bool p0.Leaf, .slice A1 p0.Pairs.length u1, .slice A2 p0.Keys.length u2, .slice A3 p0.Kids.length u3]] [] [.agg #[.bool p0.Leaf, .slice A1 p0.Pairs.length u1, .slice A2 p0.Keys.length u2, .slice A3 p0.Kids.length u3]] [.cells ⟨b1, 0, none⟩ [.bool p0.Leaf, .slice A1 p0.Pairs.length u1, .slice A2 p0.Keys.length u2, .slice A3 p0.Kids.length u3] 4] (by kernel_rfl) (s.cells (i := 0) rfl rfl rfl) ?_
 obtain ⟨x2, hx2, hf⟩ := bindS hf
 refine RW.op (by kernel_rfl) (OK.call' en61 (by kernel_rfl) (c61 (F := (.blk b1 (.cells #[.bool p0.Leaf, .slice A1 p0.Pairs.length u1, .slice A2 p0.Keys.length u2, .slice A3 p0.Kids.length u3] 26 (0, 0))) :: F) p0 A1 u1 A2 u2 A3 u3 hc1 e1 hc2 e2 hc3 e3 s hx2) ?_)
 intro X2 hX2
 refine fun _ _ hJ => hJ X2 ?_
 clear s
 intro I2 A4 n1 u4 cl1 w4 s k3 hn1 rp1
 refine hX2 _ _ ?_
 replace e1 := e1.st k3
 replace e2 := e2.st k3
 replace e3 := e3.st k3
 replace kk := kk.trans k3
 refine RW.seg hT 2 [] [(8, .int .i64 (x2.length : Int))] [.int .i64 (x2.length : Int), .int .i64 (x2.length : Int)] [.veq (.int .i64 (n1 : Nat)) (.int .i64 (x2.length : Int))] (by kernel_rfl) (len_v hn1) ?_
 refine RW.nil ?_
 refine WPK.ret (?_)
 obtain rfl := someS hf
 refine Fin.of (rs := [.tmp 2]) hT [] (.int .i64 (x2.length : Int)) [] rfl (by kernel_rfl) (trivial) ?_
 replace s := s.pick [] 2 rfl
 exact fun X h => vc rfl (h I2 _ s kk)
theorem c58 {w1 w : World} {M I : Nat → Prop} {F : List It} (p0 : (List Int)) (A1 : Option Addr) (u1 : Nat) (hc1 : (p0.length ≤ u1 ∧ u1 ≤ 9223372036854775807)) (e1 : Elems (Rp.int .u8) I w A1 p0) (s : St w1 M I (F) w) {r : (List Int)} (hf : g58 p0 = some r) :
   Ret Try.prog 58 [.slice A1 p0.length u1] w fun v wz => ∀ X : Value → World → Prop, (∀ (I' : Nat → Prop) (A2 : Option Addr) (n1 : Nat) (u2 : Nat) (cl1 : List Value) (w' : World), St w1 M I' ((.sl (.slice A2 n1 u2) 5 1 n1 cl1) :: F) w' → Kp I w I' w' → n1 = r.length → RepL (Rp.int .u8) I' w' cl1 r → X (.slice A2 n1 u2) w') → X v wz := by
 have kk : Kp I w I w := Kp.refl
 unfold g58 at hf
 refine Ret.of Try.func58 rfl ?_
 refine WPK.seq ?_
 refine WPK.region ?_
 refine RW.seg hT 1 [] [] [.slice none 0 0] [] (by kernel_rfl) (trivial) ?_
 refine RW.nil ?_
 refine WPK.seq ?_
 refine WPK.region ?_
 refine RW.seg hT 1 [] [] [.slice A1 p0.length u1] [] (by kernel_rfl) (trivial) ?_
 replace s := s.pushNil 5 1
 obtain ⟨nw1, hs1, rq1⟩ := Elems.src e1
 obtain ⟨x1, hx1, hf⟩ := bindS hf
 refine RW.op (by kernel_rfl) (OK.app hT (r := (Rp.int .u8)) (i := 0) (t := 27) (e := 5) (size := 1) (bytes := 1) (c := 0) (n := 0) (m := p0.length) s (by kernel_rfl) rfl rfl rfl rfl rfl (by decide) rfl rfl rfl rfl (RepL.nil (r := (Rp.int .u8))) hs1 rq1 flat_int rfl hx1 ?_)
 clear s
 rintro A3 u3 cl2 w2 s k1 rp1
 replace e1 := e1.st k1
 replace kk := kk.trans k1
 refine RW.seg hT 1 [] [] [.slice A3 x1.length u3] [] (by kernel_rfl) (trivial) ?_
 refine RW.nil ?_
 refine WPK.ret (?_)
 obtain rfl := someS hf
 refine Fin.of (rs := [.tmp 2]) hT [] (.slice A3 x1.length u3) [] rfl (by kernel_rfl) (trivial) ?_
 exact fun X h => vc rfl (h I A3 x1.length u3 cl2 _ s kk rfl rp1)
end Go.Proofs.Ytefjbhogpgihaaa
