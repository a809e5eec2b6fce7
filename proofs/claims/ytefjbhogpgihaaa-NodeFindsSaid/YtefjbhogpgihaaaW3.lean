/- PRINTED BY sy.py: each call computes what the plain function of its number tells. -/
import Derived.Test.YtefjbhogpgihaaaW2
namespace Go.Proofs.Ytefjbhogpgihaaa
open Go Go.SX Go.RowKit
set_option maxRecDepth 100000
set_option linter.unusedVariables false
attribute [local irreducible] WPK RW RD Ret SX.Fin SX.Any opK RoundBeg RoundEnd RangeEnd Rounds
theorem c18 {w1 w : World} {M I : Nat → Prop} {F : List It} (p0 : T_api_Node) (A1 : Option Addr) (u1 : Nat) (A2 : Option Addr) (u2 : Nat) (A3 : Option Addr) (u3 : Nat) (hc1 : (p0.Pairs.length ≤ u1 ∧ u1 ≤ 9223372036854775807)) (e1 : Elems rp_T_api_Pair I w A1 p0.Pairs) (hc2 : (p0.Keys.length ≤ u2 ∧ u2 ≤ 9223372036854775807)) (e2 : Elems (Rp.slice (Rp.int .u8)) I w A2 p0.Keys) (hc3 : (p0.Kids.length ≤ u3 ∧ u3 ≤ 9223372036854775807)) (e3 : Elems (Rp.int .i64) I w A3 p0.Kids) (s : St w1 M I (F) w) {r : Bool} (hf : g18 p0 = some r) :
    Ret Try.prog 18 [.agg #[.bool p0.Leaf, .slice A1 p0.Pairs.length u1, .slice A2 p0.Keys.length u2, .slice A3 p0.Kids.length u3]] w fun v wz => ∀ X : Value → World → Prop, (∀ (I' : Nat → Prop) (w' : World), St w1 M I' (F) w' → Kp I w I' w' → X (.bool r) w') → X v wz := by
  have kk : Kp I w I w := Kp.refl
  unfold g18 at hf
  refine Ret.of Try.func18 rfl ?_
  refine WPK.seq ?_
  refine WPK.region ?_
  refine RW.op (by kernel_rfl) (OK.new hT (f := fun b => .pointer (some ⟨b, 0, none⟩)) (cs := [.bool p0.Leaf, .slice A1 p0.Pairs.length u1, .slice A2 p0.Keys.length u2, .slice A3 p0.Kids.length u3]) (e := 26) (c := .tt) s (by kernel_rfl) trivial ?_)
  clear s
  rintro w2 b1 s k1 -
  replace e1 := e1.st k1
  replace e2 := e2.st k1
  replace e3 := e3.st k1
  replace kk := kk.trans k1
  refine RW.seg hT 1 [] [] [.bool false] [] (by kernel_rfl) (trivial) ?_
  refine RW.nil ?_
  refine WPK.seq ?_
  refine WPK.seq ?_
  refine WPK.region ?_
  refine RW.seg hT 2 [.bool p0.Leaf] [] [.pointer (some ⟨b1, 0, none⟩), .bool p0.Leaf] [.cell ⟨b1, 0, none⟩ (.bool p0.Leaf)] (by kernel_rfl) (s.cell (i := 0) (off := 0) rfl rfl) ?_
  refine RW.nil ?_
  by_cases h1 : p0.Leaf = true
  have hf := iteT h1 hf
  refine WPK.condT (Eq.trans (b := .bool p0.Leaf) (by kernel_rfl) (b_t h1)) ?_
  refine WPK.seq ?_
  refine WPK.seq ?_
  refine WPK.cut' (Kn fun D1 ds wz => ∀ X : Kont, (∀ (x1 : Bool), g18_j1 p0 x1 = some r → X [(D1.getD 0 undef), .pointer (some ⟨b1, 0, none⟩), .bool false, undef, undef, undef, (D1.getD 6 undef), (D1.getD 7 undef), (D1.getD 8 undef), (D1.getD 9 undef), (D1.getD 10 undef), (D1.getD 11 undef), (D1.getD 12 undef), (D1.getD 13 undef), (D1.getD 14 undef), (D1.getD 15 undef), (D1.getD 16 undef), (D1.getD 17 undef), (D1.getD 18 undef), (D1.getD 19 undef), (D1.getD 20 undef), .bool x1, undef, undef, undef, undef, undef, undef, undef, undef, undef, undef, undef, undef, undef, undef, undef, undef, undef, undef, undef, undef, undef, undef, undef, undef, undef, undef, undef, undef, undef, undef, undef, undef, undef, undef, undef, undef, undef, undef, undef, undef, undef, undef, undef, undef, undef, undef, undef, undef, undef, undef, undef, undef, undef, undef, undef, undef, undef, undef, undef, undef, undef, undef, undef, undef, undef, undef, undef, undef, undef, undef, undef, undef, undef, undef, undef, undef, undef, undef, undef, undef, undef, undef, undef, undef, undef, undef, undef, undef, undef, undef, undef, undef, undef, undef, undef, undef, undef, undef, undef, undef, undef, undef, undef, undef, undef, undef, undef, undef, undef, undef, undef, undef, undef, undef, undef, undef, undef, undef, undef, undef, undef] [] w2) → X D1 ds wz) ?_ ?_
  intro X1 hX1
  refine fun D1 _ _ hJ => hJ X1 ?_
  intro x1 hf
  refine hX1 _ _ _ ?_
  unfold g18_j1 at hf
  by_cases h2 : x1 = true
  have hf := iteT h2 hf
  refine WPK.condT (Eq.trans (b := .bool x1) (by kernel_rfl) (b_t h2)) ?_
  refine WPK.seq ?_
  refine WPK.region ?_
  refine RW.seg hT 1 [] [] [.bool false] [] (by kernel_rfl) (trivial) ?_
  refine RW.nil ?_
  refine WPK.ret (?_)
  obtain rfl := someS hf
  refine Fin.of (rs := [.tmp 2]) hT [] (.bool false) [] rfl (by kernel_rfl) (trivial) ?_
  replace s := s.pick [] 1 rfl
  exact fun X h => vc rfl (h I _ s kk)
  have hf := iteF h2 hf
  refine WPK.condF (Eq.trans (b := .bool x1) (by kernel_rfl) (b_f h2)) ?_
  refine WPK.skip ?_
  refine WPK.seq ?_
  refine WPK.seq ?_
  refine WPK.region ?_
  refine RW.seg hT 1 [] [] [.int .i64 0] [] (by kernel_rfl) (trivial) ?_
  refine RW.nil ?_
  refine WPK.block ?_
  refine WPK.loop' (J := fun n1 D2 ds wz => ∀ X : Kont, (∀ (I1 : Nat → Prop) (x2 : Int) (w' : World), g18_l2 p0 n1 x2 = some r → St w1 M I1 ((.blk b1 (.cells #[.bool p0.Leaf, .slice A1 p0.Pairs.length u1, .slice A2 p0.Keys.length u2, .slice A3 p0.Kids.length u3] 26 (0, 0))) :: F) w' → Kp I w I1 w' → Elems rp_T_api_Pair I1 w' A1 p0.Pairs → Elems (Rp.slice (Rp.int .u8)) I1 w' A2 p0.Keys → Elems (Rp.int .i64) I1 w' A3 p0.Kids → X [(D2.getD 0 undef), .pointer (some ⟨b1, 0, none⟩), .bool false, .int .i64 x2, undef, undef, (D2.getD 6 undef), (D2.getD 7 undef), (D2.getD 8 undef), (D2.getD 9 undef), (D2.getD 10 undef), (D2.getD 11 undef), (D2.getD 12 undef), (D2.getD 13 undef), (D2.getD 14 undef), (D2.getD 15 undef), (D2.getD 16 undef), (D2.getD 17 undef), (D2.getD 18 undef), (D2.getD 19 undef), (D2.getD 20 undef), (D2.getD 21 undef), (D2.getD 22 undef), (D2.getD 23 undef), (D2.getD 24 undef), (D2.getD 25 undef), (D2.getD 26 undef), (D2.getD 27 undef), (D2.getD 28 undef), (D2.getD 29 undef), (D2.getD 30 undef), (D2.getD 31 undef), (D2.getD 32 undef), (D2.getD 33 undef), (D2.getD 34 undef), (D2.getD 35 undef), (D2.getD 36 undef), (D2.getD 37 undef), (D2.getD 38 undef), (D2.getD 39 undef), (D2.getD 40 undef), (D2.getD 41 undef), (D2.getD 42 undef), (D2.getD 43 undef), (D2.getD 44 undef), (D2.getD 45 undef), (D2.getD 46 undef), (D2.getD 47 undef), (D2.getD 48 undef), (D2.getD 49 undef), (D2.getD 50 undef), (D2.getD 51 undef), (D2.getD 52 undef), (D2.getD 53 undef), (D2.getD 54 undef), (D2.getD 55 undef), (D2.getD 56 undef), (D2.getD 57 undef), (D2.getD 58 undef), (D2.getD 59 undef), (D2.getD 60 undef), (D2.getD 61 undef), (D2.getD 62 undef), (D2.getD 63 undef), (D2.getD 64 undef), (D2.getD 65 undef), (D2.getD 66 undef), (D2.getD 67 undef), (D2.getD 68 undef), undef, undef, undef, undef, undef, undef, undef, undef, undef, undef, undef, undef, undef, undef, undef, undef, undef, undef, undef, undef, undef, undef, undef, undef, undef, undef, undef, undef, undef, undef, undef, undef, undef, undef, undef, undef, undef, undef, undef, undef, undef, undef, undef, undef, undef, undef, undef, undef, undef, undef, undef, undef, undef, undef, undef, undef, undef, undef, undef, undef, undef, undef, undef, undef, undef, undef, undef, undef, undef, undef, undef, undef, undef, undef] [] w') → X D2 ds wz) FUEL (fun X h => kc (by kernel_rfl) rfl (h I 0 _ hf s kk e1 e2 e3)) (fun _ _ _ hJ => hJ (fun _ _ _ => False) (by intro I1 x2 w3 hf s kk e1 e2 e3; exact noneS hf)) ?_
  intro X2 hX2
  refine fun n1 D2 _ _ hJ => hJ (X2 n1) ?_
  clear s
  intro I1 x2 w3 hf s kk e1 e2 e3
  refine hX2 _ _ _ _ ?_
  replace hf : g18_l2B p0 (g18_l2 p0 n1) x2 = some r := hf
  generalize hrec1 : g18_l2 p0 n1 = rec1 at hf
  unfold g18_l2B at hf
  refine WPK.seq ?_
  refine WPK.seq ?_
  refine WPK.region ?_
  refine RW.seg hT 5 [.slice A1 p0.Pairs.length u1] [] [.int .i64 x2, .pointer (some ⟨b1, 1, none⟩), .slice A1 p0.Pairs.length u1, .int .i64 (p0.Pairs.length : Int), .bool (decide (x2 < (p0.Pairs.length : Int)))] [.cell ⟨b1, 1, none⟩ (.slice A1 p0.Pairs.length u1)] (by kernel_rfl) (s.cell (i := 0) (off := 1) rfl rfl) ?_
  refine RW.nil ?_
  by_cases h3 : x2 < (p0.Pairs.length : Int)
  have hf := iteT h3 hf
  refine WPK.condT (Eq.trans (b := .bool (decide (x2 < (p0.Pairs.length : Int)))) (by kernel_rfl) (bo_t h3)) ?_
  refine WPK.skip ?_
  refine WPK.seq ?_
  refine WPK.block ?_
  refine WPK.seq ?_
  refine WPK.cut' (Kn fun D3 ds wz => ∀ X : Kont, (∀ (I2 : Nat → Prop) (x3 : (List T_api_Pair)) (x4 : (List Int)) (x5 : Bool) (x6 : Bool) (x7 : Bool) (x8 : Bool) (x9 : Bool) (x10 : Bool) (A4 : Option Addr) (u4 : Nat) (A5 : Option Addr) (u5 : Nat) (w' : World), g18_j3 x2 rec1 x3 x4 x5 x6 x7 x8 x9 x10 = some r → St w1 M I2 ((.blk b1 (.cells #[.bool p0.Leaf, .slice A1 p0.Pairs.length u1, .slice A2 p0.Keys.length u2, .slice A3 p0.Kids.length u3] 26 (0, 0))) :: F) w' → Kp I w I2 w' → Elems rp_T_api_Pair I2 w' A1 p0.Pairs → (x3.length ≤ u4 ∧ u4 ≤ 9223372036854775807) → Elems rp_T_api_Pair I2 w' A4 x3 → (x4.length ≤ u5 ∧ u5 ≤ 9223372036854775807) → Elems (Rp.int .u8) I2 w' A5 x4 → Elems (Rp.slice (Rp.int .u8)) I2 w' A2 p0.Keys → Elems (Rp.int .i64) I2 w' A3 p0.Kids → X [(D3.getD 0 undef), .pointer (some ⟨b1, 0, none⟩), .bool false, .int .i64 x2, undef, undef, (D3.getD 6 undef), (D3.getD 7 undef), (D3.getD 8 undef), (D3.getD 9 undef), (D3.getD 10 undef), (D3.getD 11 undef), (D3.getD 12 undef), (D3.getD 13 undef), (D3.getD 14 undef), (D3.getD 15 undef), (D3.getD 16 undef), (D3.getD 17 undef), (D3.getD 18 undef), (D3.getD 19 undef), (D3.getD 20 undef), (D3.getD 21 undef), .int .i64 x2, .pointer (some ⟨b1, 1, none⟩), .slice A1 p0.Pairs.length u1, .int .i64 (p0.Pairs.length : Int), .bool (decide (x2 < (p0.Pairs.length : Int))), (D2.getD 27 undef), (D2.getD 28 undef), .pointer (some ⟨b1, 1, none⟩), .slice A4 x3.length u4, .int .i64 x2, (D3.getD 32 undef), (D3.getD 33 undef), .slice A5 x4.length u5, .bool x5, .bool x6, .bool x7, (D3.getD 38 undef), (D3.getD 39 undef), (D3.getD 40 undef), (D3.getD 41 undef), (D3.getD 42 undef), (D3.getD 43 undef), (D3.getD 44 undef), (D3.getD 45 undef), .bool x8, .bool x9, (D3.getD 48 undef), (D3.getD 49 undef), (D3.getD 50 undef), (D3.getD 51 undef), (D3.getD 52 undef), (D3.getD 53 undef), (D3.getD 54 undef), (D3.getD 55 undef), (D3.getD 56 undef), (D3.getD 57 undef), (D3.getD 58 undef), (D3.getD 59 undef), (D3.getD 60 undef), (D3.getD 61 undef), (D3.getD 62 undef), (D3.getD 63 undef), (D3.getD 64 undef), (D3.getD 65 undef), (D3.getD 66 undef), (D3.getD 67 undef), .bool x10, undef, undef, undef, undef, undef, undef, undef, undef, undef, undef, undef, undef, undef, undef, undef, undef, undef, undef, undef, undef, undef, undef, undef, undef, undef, undef, undef, undef, undef, undef, undef, undef, undef, undef, undef, undef, undef, undef, undef, undef, undef, undef, undef, undef, undef, undef, undef, undef, undef, undef, undef, undef, undef, undef, undef, undef, undef, undef, undef, undef, undef, undef, undef, undef, undef, undef, undef, undef, undef, undef, undef, undef, undef, undef] [] w') → X D3 ds wz) ?_ ?_
  intro X3 hX3
  refine fun D3 _ _ hJ => hJ X3 ?_
  clear s
  intro I2 x3 x4 x5 x6 x7 x8 x9 x10 A4 u4 A5 u5 w4 hf s kk e1 hc4 e4 hc5 e5 e2 e3
  refine hX3 _ _ _ ?_
  unfold g18_j3 at hf
  by_cases h4 : x10 = true
  have hf := iteT h4 hf
  refine WPK.condT (Eq.trans (b := .bool x10) (by kernel_rfl) (b_t h4)) ?_
  refine WPK.seq ?_
  refine WPK.region ?_
  refine RW.seg hT 1 [] [] [.bool false] [] (by kernel_rfl) (trivial) ?_
  refine RW.nil ?_
  refine WPK.ret (blockQ.ret (blockQ.ret (?_)))
  obtain rfl := someS hf
  refine Fin.of (rs := [.tmp 2]) hT [] (.bool false) [] rfl (by kernel_rfl) (trivial) ?_
  replace s := s.pick [] 1 rfl
  exact fun X h => vc rfl (h I2 _ s kk)
  have hf := iteF h4 hf
  refine WPK.condF (Eq.trans (b := .bool x10) (by kernel_rfl) (b_f h4)) ?_
  refine WPK.skip ?_
  refine WPK.region ?_
  refine RW.seg hT 3 [] [] [.int .i64 x2, .int .i64 (IntKind.i64.wrap (x2 + 1)), .int .i64 (IntKind.i64.wrap (x2 + 1))] [] (by kernel_rfl) (trivial) ?_
  refine RW.nil ?_
  subst hrec1
  exact ⟨n1, Nat.le_refl _, fun X h => kc (by kernel_rfl) rfl (h I2 (IntKind.i64.wrap (x2 + 1)) _ hf s kk e1 e2 e3)⟩
  have e1S1 := e1
  have e2S1 := e2
  have e3S1 := e3
  have kS1 : Kp I1 w3 I1 w3 := Kp.refl
  refine WPK.drawM (fun w' => ∃ I' : Nat → Prop, St w1 M I' ((.blk b1 (.cells #[.bool p0.Leaf, .slice A1 p0.Pairs.length u1, .slice A2 p0.Keys.length u2, .slice A3 p0.Kids.length u3] 26 (0, 0))) :: F) w' ∧ Kp I1 w3 I' w') 40 [0, 1, 0, 7, 15, 31, 63, 127, 255, 511, 1023, 511, 4095, 8191, 16383, 32767, 65535, 131071, 262143, 524287, 1048575, 2097151, 4194303, 8388607, 4194303, 20971519, 67108863, 134217727, 268435455, 536870911, 4194303, 1077936127, 4194303, 7520387071, 16110321663, 33290190847, 67649929215, 137438953471, 274877906943, 549755813887] (by kernel_rfl) (by kernel_rfl) ?_
  intro ht1 w5 hd1
  have k2 := Kp.dr s hd1
  replace s := s.dr hd1
  replace e1 := e1.st k2
  replace e2 := e2.st k2
  replace e3 := e3.st k2
  replace kk := kk.trans k2
  replace kS1 := kS1.trans k2
  obtain ⟨x11, hx1, hf⟩ := bindS hf
  obtain ⟨h5, hx1⟩ := getS hx1
  obtain ⟨b2, o1, rfl⟩ := Elems.opn e1 hx1
  obtain ⟨cs1, hr1, ha1, hb1⟩ := Elems.getI e1S1 hx1
  obtain ⟨cs2, cs3, rfl, hr2, hr3⟩ := hr1
  obtain ⟨A6, u6, rfl, q1, q2, e6⟩ := hr2
  have hc6 := And.intro q1 q2
  obtain ⟨A7, u7, rfl, q3, q4, e7⟩ := hr3
  have hc7 := And.intro q3 q4
  have e6S1 := e6
  replace e6 := e6.st kS1
  have e7S1 := e7
  replace e7 := e7.st kS1
  refine RD.segM hT ht1 (by kernel_rfl) [0, 1, 2, 3, 4, 5] [.slice (some ⟨b2, o1, none⟩) p0.Pairs.length u1, .slice A6 x11.Key.length u6] [] [.pointer (some ⟨b1, 1, none⟩), .slice (some ⟨b2, o1, none⟩) p0.Pairs.length u1, .int .i64 x2, .pointer (some ⟨b2, o1 + x2.toNat * 2, none⟩), .pointer (some ⟨b2, o1 + x2.toNat * 2, none⟩), .slice A6 x11.Key.length u6] [.cell ⟨b1, 1, none⟩ (.slice (some ⟨b2, o1, none⟩) p0.Pairs.length u1), .idx x2 p0.Pairs.length, .cell ⟨b2, o1 + x2.toNat * 2, none⟩ (.slice A6 x11.Key.length u6)] (by kernel_rfl) (by rintro w' ⟨I', s, k⟩; have e1 := e1S1.st k; have e2 := e2S1.st k; have e3 := e3S1.st k; have e6 := e6S1.st k; have e7 := e7S1.st k; have ha1 := ha1.st k hb1; exact ⟨s.cell (i := 0) (off := 1) rfl rfl, h5, ha1 0 _ rfl⟩) ⟨_, s.pick [0] 1 rfl, kS1⟩ ?_
  obtain ⟨x12, hx2, hf⟩ := bindS hf
  refine RD.op (i := 6) rfl (by kernel_rfl) (by kernel_rfl) (OK.call' en54 (by kernel_rfl) (c54 (F := (.blk b1 (.cells #[.bool p0.Leaf, .slice (some ⟨b2, o1, none⟩) p0.Pairs.length u1, .slice A2 p0.Keys.length u2, .slice A3 p0.Kids.length u3] 26 (0, 0))) :: F) x11.Key A6 u6 hc6 e6 s hx2) ?_)
  intro X4 hX4
  refine fun _ _ hJ => hJ X4 ?_
  clear s
  intro I3 w6 s k3
  refine hX4 _ _ ?_
  replace e1 := e1.st k3
  replace e6 := e6.st k3
  replace e2 := e2.st k3
  replace e3 := e3.st k3
  replace kk := kk.trans k3
  replace kS1 := kS1.trans k3
  refine ⟨fun _ => ⟨_, s.pick [0] 1 rfl, kS1⟩, RD.fold ?_⟩
  refine RD.segM hT ht1 (by kernel_rfl) [7] [] [(36, .bool (decide (¬ (x12 = true))))] [.bool (decide (¬ (x12 = true)))] [.veq (.bool (!x12)) (.bool (decide (¬ (x12 = true))))] (by kernel_rfl) (by rintro w' ⟨I', s, k⟩; have e1 := e1S1.st k; have e2 := e2S1.st k; have e3 := e3S1.st k; have e6 := e6S1.st k; have e7 := e7S1.st k; exact not_b) ⟨_, s.pick [0] 1 rfl, kS1⟩ ?_
  by_cases h6 : ¬ (x12 = true)
  have hf := iteT h6 hf
  refine RD.segM hT ht1 (by kernel_rfl) [8, 9, 10, 11, 12, 13, 14, 15, 16, 17, 18, 19, 20, 21, 22, 23, 24, 25, 26, 27, 28, 29, 30, 31, 32, 33, 34, 35, 36, 37, 38, 39] [] [(37, .bool true)] [.bool true, undef, undef, undef, undef, undef, undef, undef, undef, .bool true, .bool true, undef, undef, undef, undef, undef, undef, undef, undef, undef, undef, undef, undef, undef, undef, undef, undef, undef, undef, undef, undef, .bool true] [.veq (.bool (decide (¬ (x12 = true)))) (.bool true)] (by kernel_rfl) (by rintro w' ⟨I', s, k⟩; have e1 := e1S1.st k; have e2 := e2S1.st k; have e3 := e3S1.st k; have e6 := e6S1.st k; have e7 := e7S1.st k; exact bo_t h6) ⟨_, s.pick [0] 1 rfl, kS1⟩ ?_
  refine RD.done (by kernel_rfl) ?_
  exact fun X h => kc (by kernel_rfl) rfl (h I3 p0.Pairs x11.Key x12 (decide (¬ (x12 = true))) true true true true (some ⟨b2, o1, none⟩) u1 A6 u6 _ hf s kk e1 hc1 e1 hc6 e6 e2 e3)
  have hf := iteF h6 hf
  obtain ⟨x13, hx3, hf⟩ := bindS hf
  obtain ⟨h7, hx3⟩ := getS hx3
  obtain ⟨cs4, hr4, ha2, hb2⟩ := Elems.getI e1S1 hx3
  obtain ⟨cs5, cs6, rfl, hr5, hr6⟩ := hr4
  obtain ⟨A8, u8, rfl, q5, q6, e8⟩ := hr5
  have hc8 := And.intro q5 q6
  obtain ⟨A9, u9, rfl, q7, q8, e9⟩ := hr6
  have hc9 := And.intro q7 q8
  have e8S1 := e8
  replace e8 := e8.st kS1
  have e9S1 := e9
  replace e9 := e9.st kS1
  refine RD.segM hT ht1 (by kernel_rfl) [8, 9, 10, 11, 12, 13, 14, 15, 16, 17] [.slice (some ⟨b2, o1, none⟩) p0.Pairs.length u1, .slice A9 x13.Val.length u9] [(37, .bool false)] [.bool false, .pointer (some ⟨b1, 1, none⟩), .slice (some ⟨b2, o1, none⟩) p0.Pairs.length u1, .int .i64 x2, .pointer (some ⟨b2, o1 + x2.toNat * 2, none⟩), .pointer (some ⟨b2, o1 + x2.toNat * 2 + 1, none⟩), .slice A9 x13.Val.length u9, .int .i64 (x13.Val.length : Int), .bool (decide ((x13.Val.length : Int) > 24)), .bool (decide ((x13.Val.length : Int) > 24))] [.veq (.bool (decide (¬ (x12 = true)))) (.bool false), .cell ⟨b1, 1, none⟩ (.slice (some ⟨b2, o1, none⟩) p0.Pairs.length u1), .idx x2 p0.Pairs.length, .cell ⟨b2, o1 + x2.toNat * 2 + 1, none⟩ (.slice A9 x13.Val.length u9)] (by kernel_rfl) (by rintro w' ⟨I', s, k⟩; have e1 := e1S1.st k; have e2 := e2S1.st k; have e3 := e3S1.st k; have e6 := e6S1.st k; have e7 := e7S1.st k; have e8 := e8S1.st k; have e9 := e9S1.st k; have ha2 := ha2.st k hb2; exact ⟨bo_f h6, s.cell (i := 0) (off := 1) rfl rfl, h7, ha2 1 _ rfl⟩) ⟨_, s.pick [0] 1 rfl, kS1⟩ ?_
  by_cases h8 : (x13.Val.length : Int) > 24
  have hf := iteT h8 hf
  refine RD.segM hT ht1 (by kernel_rfl) [18, 19, 20, 21, 22, 23, 24, 25, 26, 27, 28, 29, 30, 31, 32, 33, 34, 35, 36, 37, 38, 39] [] [(47, .bool true)] [.bool true, undef, undef, undef, undef, undef, undef, undef, undef, undef, undef, undef, undef, undef, undef, undef, undef, undef, undef, undef, undef, .bool true] [.veq (.bool (decide ((x13.Val.length : Int) > 24))) (.bool true)] (by kernel_rfl) (by rintro w' ⟨I', s, k⟩; have e1 := e1S1.st k; have e2 := e2S1.st k; have e3 := e3S1.st k; have e6 := e6S1.st k; have e7 := e7S1.st k; have e8 := e8S1.st k; have e9 := e9S1.st k; exact bo_t h8) ⟨_, s.pick [0] 1 rfl, kS1⟩ ?_
  refine RD.done (by kernel_rfl) ?_
  exact fun X h => kc (by kernel_rfl) rfl (h I3 p0.Pairs x11.Key x12 (decide (¬ (x12 = true))) false (decide ((x13.Val.length : Int) > 24)) true true (some ⟨b2, o1, none⟩) u1 A6 u6 _ hf s kk e1 hc1 e1 hc6 e6 e2 e3)
  have hf := iteF h8 hf
  refine RD.segM hT ht1 (by kernel_rfl) [18, 19, 20] [] [(47, .bool false)] [.bool false, .int .i64 x2, .bool (decide (x2 > 0))] [.veq (.bool (decide ((x13.Val.length : Int) > 24))) (.bool false)] (by kernel_rfl) (by rintro w' ⟨I', s, k⟩; have e1 := e1S1.st k; have e2 := e2S1.st k; have e3 := e3S1.st k; have e6 := e6S1.st k; have e7 := e7S1.st k; have e8 := e8S1.st k; have e9 := e9S1.st k; exact bo_f h8) ⟨_, s.pick [0] 1 rfl, kS1⟩ ?_
  by_cases h9 : x2 > 0
  have hf := iteT h9 hf
  obtain ⟨x14, hx4, hf⟩ := bindS hf
  obtain ⟨h10, hx4⟩ := getS hx4
  obtain ⟨cs7, hr7, ha3, hb3⟩ := Elems.getI e1S1 hx4
  obtain ⟨cs8, cs9, rfl, hr8, hr9⟩ := hr7
  obtain ⟨A10, u10, rfl, q9, q10, e10⟩ := hr8
  have hc10 := And.intro q9 q10
  obtain ⟨A11, u11, rfl, q11, q12, e11⟩ := hr9
  have hc11 := And.intro q11 q12
  have e10S1 := e10
  replace e10 := e10.st kS1
  have e11S1 := e11
  replace e11 := e11.st kS1
  obtain ⟨x15, hx5, hf⟩ := bindS hf
  obtain ⟨h11, hx5⟩ := getS hx5
  obtain ⟨cs10, hr10, ha4, hb4⟩ := Elems.getI e1S1 hx5
  obtain ⟨cs11, cs12, rfl, hr11, hr12⟩ := hr10
  obtain ⟨A12, u12, rfl, q13, q14, e12⟩ := hr11
  have hc12 := And.intro q13 q14
  obtain ⟨A13, u13, rfl, q15, q16, e13⟩ := hr12
  have hc13 := And.intro q15 q16
  have e12S1 := e12
  replace e12 := e12.st kS1
  have e13S1 := e13
  replace e13 := e13.st kS1
  refine RD.segM hT ht1 (by kernel_rfl) [21, 22, 23, 24, 25, 26, 27, 28, 29, 30, 31, 32, 33, 34, 35, 36, 37, 38, 39] [.slice (some ⟨b2, o1, none⟩) p0.Pairs.length u1, .slice A10 x14.Key.length u10, .string (strOfNums x14.Key), .slice (some ⟨b2, o1, none⟩) p0.Pairs.length u1, .slice A12 x15.Key.length u12, .string (strOfNums x15.Key)] [(50, .bool true)] [.bool true, .pointer (some ⟨b1, 1, none⟩), .slice (some ⟨b2, o1, none⟩) p0.Pairs.length u1, .int .i64 x2, .int .i64 (IntKind.i64.wrap (x2 - 1)), .pointer (some ⟨b2, o1 + (IntKind.i64.wrap (x2 - 1)).toNat * 2, none⟩), .pointer (some ⟨b2, o1 + (IntKind.i64.wrap (x2 - 1)).toNat * 2, none⟩), .slice A10 x14.Key.length u10, .string (strOfNums x14.Key), .pointer (some ⟨b1, 1, none⟩), .slice (some ⟨b2, o1, none⟩) p0.Pairs.length u1, .int .i64 x2, .pointer (some ⟨b2, o1 + x2.toNat * 2, none⟩), .pointer (some ⟨b2, o1 + x2.toNat * 2, none⟩), .slice A12 x15.Key.length u12, .string (strOfNums x15.Key), .bool (!(Op.bytesLess (strOfNums x14.Key).toList (strOfNums x15.Key).toList)), .bool (!(Op.bytesLess (strOfNums x14.Key).toList (strOfNums x15.Key).toList)), .bool (!(Op.bytesLess (strOfNums x14.Key).toList (strOfNums x15.Key).toList))] [.veq (.bool (decide (x2 > 0))) (.bool true), .cell ⟨b1, 1, none⟩ (.slice (some ⟨b2, o1, none⟩) p0.Pairs.length u1), .idx (IntKind.i64.wrap (x2 - 1)) p0.Pairs.length, .cell ⟨b2, o1 + (IntKind.i64.wrap (x2 - 1)).toNat * 2, none⟩ (.slice A10 x14.Key.length u10), .bytes A10 x14.Key.length (strOfNums x14.Key), .cell ⟨b1, 1, none⟩ (.slice (some ⟨b2, o1, none⟩) p0.Pairs.length u1), .idx x2 p0.Pairs.length, .cell ⟨b2, o1 + x2.toNat * 2, none⟩ (.slice A12 x15.Key.length u12), .bytes A12 x15.Key.length (strOfNums x15.Key)] (by kernel_rfl) (by rintro w' ⟨I', s, k⟩; have e1 := e1S1.st k; have e2 := e2S1.st k; have e3 := e3S1.st k; have e6 := e6S1.st k; have e7 := e7S1.st k; have e8 := e8S1.st k; have e9 := e9S1.st k; have e10 := e10S1.st k; have e11 := e11S1.st k; have e12 := e12S1.st k; have e13 := e13S1.st k; have ha3 := ha3.st k hb3; have ha4 := ha4.st k hb4; exact ⟨bo_t h9, s.cell (i := 0) (off := 1) rfl rfl, h10, ha3 0 _ rfl, Elems.bytes e10, s.cell (i := 0) (off := 1) rfl rfl, h11, ha4 0 _ rfl, Elems.bytes e12⟩) ⟨_, s.pick [0] 1 rfl, kS1⟩ ?_
  refine RD.done (by kernel_rfl) ?_
  exact fun X h => kc (by kernel_rfl) rfl (h I3 p0.Pairs x11.Key x12 (decide (¬ (x12 = true))) false (decide ((x13.Val.length : Int) > 24)) false (!(Op.bytesLess (strOfNums x14.Key).toList (strOfNums x15.Key).toList)) (some ⟨b2, o1, none⟩) u1 A6 u6 _ hf s kk e1 hc1 e1 hc6 e6 e2 e3)
  have hf := iteF h9 hf
  refine RD.segM hT ht1 (by kernel_rfl) [21, 22, 23, 24, 25, 26, 27, 28, 29, 30, 31, 32, 33, 34, 35, 36, 37, 38, 39] [] [(50, .bool false)] [.bool false, undef, undef, undef, undef, undef, undef, undef, undef, undef, undef, undef, undef, undef, undef, undef, undef, .bool false, .bool false] [.veq (.bool (decide (x2 > 0))) (.bool false)] (by kernel_rfl) (by rintro w' ⟨I', s, k⟩; have e1 := e1S1.st k; have e2 := e2S1.st k; have e3 := e3S1.st k; have e6 := e6S1.st k; have e7 := e7S1.st k; have e8 := e8S1.st k; have e9 := e9S1.st k; exact bo_f h9) ⟨_, s.pick [0] 1 rfl, kS1⟩ ?_
  refine RD.done (by kernel_rfl) ?_
  exact fun X h => kc (by kernel_rfl) rfl (h I3 p0.Pairs x11.Key x12 (decide (¬ (x12 = true))) false (decide ((x13.Val.length : Int) > 24)) false false (some ⟨b2, o1, none⟩) u1 A6 u6 _ hf s kk e1 hc1 e1 hc6 e6 e2 e3)
  have hf := iteF h3 hf
  refine WPK.condF (Eq.trans (b := .bool (decide (x2 < (p0.Pairs.length : Int)))) (by kernel_rfl) (bo_f h3)) ?_
  refine WPK.exit (blockQ.same ?_)
  refine WPK.seq ?_
  refine WPK.region ?_
  refine RW.seg hT 1 [] [] [.bool true] [] (by kernel_rfl) (trivial) ?_
  refine RW.nil ?_
  refine WPK.ret (?_)
  obtain rfl := someS hf
  refine Fin.of (rs := [.tmp 2]) hT [] (.bool true) [] rfl (by kernel_rfl) (trivial) ?_
  replace s := s.pick [] 1 rfl
  exact fun X h => vc rfl (h I1 _ s kk)
  refine WPK.region ?_
  obtain ⟨x16, hx6, hf⟩ := bindS hf
  refine RW.seg hT 8 [.slice A2 p0.Keys.length u2, .slice A3 p0.Kids.length u3] [(14, .int .i64 x16)] [.pointer (some ⟨b1, 2, none⟩), .slice A2 p0.Keys.length u2, .int .i64 (p0.Keys.length : Int), .pointer (some ⟨b1, 3, none⟩), .slice A3 p0.Kids.length u3, .int .i64 (p0.Kids.length : Int), .int .i64 x16, .bool (decide (x16 > 0))] [.cell ⟨b1, 2, none⟩ (.slice A2 p0.Keys.length u2), .cell ⟨b1, 3, none⟩ (.slice A3 p0.Kids.length u3), .veq (.int .i64 (IntKind.i64.wrap ((p0.Keys.length : Int) + (p0.Kids.length : Int)))) (.int .i64 x16)] (by kernel_rfl) (⟨s.cell (i := 0) (off := 2) rfl rfl, s.cell (i := 0) (off := 3) rfl rfl, int_v (someS hx6)⟩) ?_
  by_cases h12 : x16 > 0
  have hf := iteT h12 hf
  refine RW.seg hT 6 [] [(16, .bool true)] [.bool true, undef, undef, undef, undef, .bool true] [.veq (.bool (decide (x16 > 0))) (.bool true)] (by kernel_rfl) (bo_t h12) ?_
  refine RW.nil ?_
  exact fun X h => kc (by kernel_rfl) rfl (h true hf)
  have hf := iteF h12 hf
  refine RW.seg hT 6 [.slice A1 p0.Pairs.length u1] [(16, .bool false)] [.bool false, .pointer (some ⟨b1, 1, none⟩), .slice A1 p0.Pairs.length u1, .int .i64 (p0.Pairs.length : Int), .bool (decide ((p0.Pairs.length : Int) > 255)), .bool (decide ((p0.Pairs.length : Int) > 255))] [.veq (.bool (decide (x16 > 0))) (.bool false), .cell ⟨b1, 1, none⟩ (.slice A1 p0.Pairs.length u1)] (by kernel_rfl) (⟨bo_f h12, s.cell (i := 0) (off := 1) rfl rfl⟩) ?_
  refine RW.nil ?_
  exact fun X h => kc (by kernel_rfl) rfl (h (decide ((p0.Pairs.length : Int) > 255)) hf)
  have hf := iteF h1 hf
  refine WPK.condF (Eq.trans (b := .bool p0.Leaf) (by kernel_rfl) (b_f h1)) ?_
  refine WPK.skip ?_
  refine WPK.seq ?_
  refine WPK.seq ?_
  refine WPK.cut' (Kn fun D4 ds wz => ∀ X : Kont, (∀ (x17 : Bool), g18_j4 p0 x17 = some r → X [(D4.getD 0 undef), .pointer (some ⟨b1, 0, none⟩), .bool false, (D4.getD 3 undef), undef, undef, (D4.getD 6 undef), (D4.getD 7 undef), (D4.getD 8 undef), (D4.getD 9 undef), (D4.getD 10 undef), (D4.getD 11 undef), (D4.getD 12 undef), (D4.getD 13 undef), (D4.getD 14 undef), (D4.getD 15 undef), (D4.getD 16 undef), (D4.getD 17 undef), (D4.getD 18 undef), (D4.getD 19 undef), (D4.getD 20 undef), (D4.getD 21 undef), (D4.getD 22 undef), (D4.getD 23 undef), (D4.getD 24 undef), (D4.getD 25 undef), (D4.getD 26 undef), (D4.getD 27 undef), (D4.getD 28 undef), (D4.getD 29 undef), (D4.getD 30 undef), (D4.getD 31 undef), (D4.getD 32 undef), (D4.getD 33 undef), (D4.getD 34 undef), (D4.getD 35 undef), (D4.getD 36 undef), (D4.getD 37 undef), (D4.getD 38 undef), (D4.getD 39 undef), (D4.getD 40 undef), (D4.getD 41 undef), (D4.getD 42 undef), (D4.getD 43 undef), (D4.getD 44 undef), (D4.getD 45 undef), (D4.getD 46 undef), (D4.getD 47 undef), (D4.getD 48 undef), (D4.getD 49 undef), (D4.getD 50 undef), (D4.getD 51 undef), (D4.getD 52 undef), (D4.getD 53 undef), (D4.getD 54 undef), (D4.getD 55 undef), (D4.getD 56 undef), (D4.getD 57 undef), (D4.getD 58 undef), (D4.getD 59 undef), (D4.getD 60 undef), (D4.getD 61 undef), (D4.getD 62 undef), (D4.getD 63 undef), (D4.getD 64 undef), (D4.getD 65 undef), (D4.getD 66 undef), (D4.getD 67 undef), (D4.getD 68 undef), (D4.getD 69 undef), (D4.getD 70 undef), (D4.getD 71 undef), (D4.getD 72 undef), (D4.getD 73 undef), (D4.getD 74 undef), (D4.getD 75 undef), (D4.getD 76 undef), (D4.getD 77 undef), (D4.getD 78 undef), (D4.getD 79 undef), (D4.getD 80 undef), (D4.getD 81 undef), (D4.getD 82 undef), (D4.getD 83 undef), (D4.getD 84 undef), (D4.getD 85 undef), (D4.getD 86 undef), (D4.getD 87 undef), (D4.getD 88 undef), (D4.getD 89 undef), (D4.getD 90 undef), (D4.getD 91 undef), (D4.getD 92 undef), (D4.getD 93 undef), .bool x17, undef, undef, undef, undef, undef, undef, undef, undef, undef, undef, undef, undef, undef, undef, undef, undef, undef, undef, undef, undef, undef, undef, undef, undef, undef, undef, undef, undef, undef, undef, undef, undef, undef, undef, undef, undef, undef, undef, undef, undef, undef, undef, undef, undef, undef, undef, undef, undef] [] w2) → X D4 ds wz) ?_ ?_
  intro X5 hX5
  refine fun D4 _ _ hJ => hJ X5 ?_
  intro x17 hf
  refine hX5 _ _ _ ?_
  unfold g18_j4 at hf
  by_cases h13 : x17 = true
  have hf := iteT h13 hf
  refine WPK.condT (Eq.trans (b := .bool x17) (by kernel_rfl) (b_t h13)) ?_
  refine WPK.seq ?_
  refine WPK.region ?_
  refine RW.seg hT 1 [] [] [.bool false] [] (by kernel_rfl) (trivial) ?_
  refine RW.nil ?_
  refine WPK.ret (?_)
  obtain rfl := someS hf
  refine Fin.of (rs := [.tmp 2]) hT [] (.bool false) [] rfl (by kernel_rfl) (trivial) ?_
  replace s := s.pick [] 1 rfl
  exact fun X h => vc rfl (h I _ s kk)
  have hf := iteF h13 hf
  refine WPK.condF (Eq.trans (b := .bool x17) (by kernel_rfl) (b_f h13)) ?_
  refine WPK.skip ?_
  refine WPK.seq ?_
  refine WPK.seq ?_
  refine WPK.region ?_
  refine RW.seg hT 1 [] [] [.int .i64 0] [] (by kernel_rfl) (trivial) ?_
  refine RW.nil ?_
  refine WPK.block ?_
  refine WPK.loop' (J := fun n2 D5 ds wz => ∀ X : Kont, (∀ (I4 : Nat → Prop) (x18 : Int) (w' : World), g18_l5 p0 n2 x18 = some r → St w1 M I4 ((.blk b1 (.cells #[.bool p0.Leaf, .slice A1 p0.Pairs.length u1, .slice A2 p0.Keys.length u2, .slice A3 p0.Kids.length u3] 26 (0, 0))) :: F) w' → Kp I w I4 w' → Elems rp_T_api_Pair I4 w' A1 p0.Pairs → Elems (Rp.slice (Rp.int .u8)) I4 w' A2 p0.Keys → Elems (Rp.int .i64) I4 w' A3 p0.Kids → X [(D5.getD 0 undef), .pointer (some ⟨b1, 0, none⟩), .bool false, (D5.getD 3 undef), .int .i64 x18, undef, (D5.getD 6 undef), (D5.getD 7 undef), (D5.getD 8 undef), (D5.getD 9 undef), (D5.getD 10 undef), (D5.getD 11 undef), (D5.getD 12 undef), (D5.getD 13 undef), (D5.getD 14 undef), (D5.getD 15 undef), (D5.getD 16 undef), (D5.getD 17 undef), (D5.getD 18 undef), (D5.getD 19 undef), (D5.getD 20 undef), (D5.getD 21 undef), (D5.getD 22 undef), (D5.getD 23 undef), (D5.getD 24 undef), (D5.getD 25 undef), (D5.getD 26 undef), (D5.getD 27 undef), (D5.getD 28 undef), (D5.getD 29 undef), (D5.getD 30 undef), (D5.getD 31 undef), (D5.getD 32 undef), (D5.getD 33 undef), (D5.getD 34 undef), (D5.getD 35 undef), (D5.getD 36 undef), (D5.getD 37 undef), (D5.getD 38 undef), (D5.getD 39 undef), (D5.getD 40 undef), (D5.getD 41 undef), (D5.getD 42 undef), (D5.getD 43 undef), (D5.getD 44 undef), (D5.getD 45 undef), (D5.getD 46 undef), (D5.getD 47 undef), (D5.getD 48 undef), (D5.getD 49 undef), (D5.getD 50 undef), (D5.getD 51 undef), (D5.getD 52 undef), (D5.getD 53 undef), (D5.getD 54 undef), (D5.getD 55 undef), (D5.getD 56 undef), (D5.getD 57 undef), (D5.getD 58 undef), (D5.getD 59 undef), (D5.getD 60 undef), (D5.getD 61 undef), (D5.getD 62 undef), (D5.getD 63 undef), (D5.getD 64 undef), (D5.getD 65 undef), (D5.getD 66 undef), (D5.getD 67 undef), (D5.getD 68 undef), (D5.getD 69 undef), (D5.getD 70 undef), (D5.getD 71 undef), (D5.getD 72 undef), (D5.getD 73 undef), (D5.getD 74 undef), (D5.getD 75 undef), (D5.getD 76 undef), (D5.getD 77 undef), (D5.getD 78 undef), (D5.getD 79 undef), (D5.getD 80 undef), (D5.getD 81 undef), (D5.getD 82 undef), (D5.getD 83 undef), (D5.getD 84 undef), (D5.getD 85 undef), (D5.getD 86 undef), (D5.getD 87 undef), (D5.getD 88 undef), (D5.getD 89 undef), (D5.getD 90 undef), (D5.getD 91 undef), (D5.getD 92 undef), (D5.getD 93 undef), (D5.getD 94 undef), (D5.getD 95 undef), (D5.getD 96 undef), (D5.getD 97 undef), (D5.getD 98 undef), (D5.getD 99 undef), (D5.getD 100 undef), (D5.getD 101 undef), (D5.getD 102 undef), (D5.getD 103 undef), (D5.getD 104 undef), (D5.getD 105 undef), (D5.getD 106 undef), (D5.getD 107 undef), (D5.getD 108 undef), (D5.getD 109 undef), (D5.getD 110 undef), (D5.getD 111 undef), (D5.getD 112 undef), (D5.getD 113 undef), (D5.getD 114 undef), (D5.getD 115 undef), (D5.getD 116 undef), (D5.getD 117 undef), (D5.getD 118 undef), (D5.getD 119 undef), (D5.getD 120 undef), (D5.getD 121 undef), (D5.getD 122 undef), (D5.getD 123 undef), (D5.getD 124 undef), (D5.getD 125 undef), (D5.getD 126 undef), (D5.getD 127 undef), (D5.getD 128 undef), undef, undef, undef, undef, undef, undef, undef, undef, undef, undef, undef, undef, undef, undef] [] w') → X D5 ds wz) FUEL (fun X h => kc (by kernel_rfl) rfl (h I 0 _ hf s kk e1 e2 e3)) (fun _ _ _ hJ => hJ (fun _ _ _ => False) (by intro I4 x18 w7 hf s kk e1 e2 e3; exact noneS hf)) ?_
  intro X6 hX6
  refine fun n2 D5 _ _ hJ => hJ (X6 n2) ?_
  clear s
  intro I4 x18 w7 hf s kk e1 e2 e3
  refine hX6 _ _ _ _ ?_
  replace hf : g18_l5B p0 (g18_l5 p0 n2) x18 = some r := hf
  generalize hrec2 : g18_l5 p0 n2 = rec2 at hf
  unfold g18_l5B at hf
  refine WPK.seq ?_
  refine WPK.seq ?_
  refine WPK.region ?_
  refine RW.seg hT 5 [.slice A2 p0.Keys.length u2] [] [.int .i64 x18, .pointer (some ⟨b1, 2, none⟩), .slice A2 p0.Keys.length u2, .int .i64 (p0.Keys.length : Int), .bool (decide (x18 < (p0.Keys.length : Int)))] [.cell ⟨b1, 2, none⟩ (.slice A2 p0.Keys.length u2)] (by kernel_rfl) (s.cell (i := 0) (off := 2) rfl rfl) ?_
  refine RW.nil ?_
  by_cases h14 : x18 < (p0.Keys.length : Int)
  have hf := iteT h14 hf
  refine WPK.condT (Eq.trans (b := .bool (decide (x18 < (p0.Keys.length : Int)))) (by kernel_rfl) (bo_t h14)) ?_
  refine WPK.skip ?_
  refine WPK.seq ?_
  refine WPK.block ?_
  refine WPK.seq ?_
  have e2S2 := e2
  have e1S2 := e1
  have e3S2 := e3
  have kS2 : Kp I4 w7 I4 w7 := Kp.refl
  refine WPK.drawM (fun w' => ∃ I' : Nat → Prop, St w1 M I' ((.blk b1 (.cells #[.bool p0.Leaf, .slice A1 p0.Pairs.length u1, .slice A2 p0.Keys.length u2, .slice A3 p0.Kids.length u3] 26 (0, 0))) :: F) w' ∧ Kp I4 w7 I' w') 27 [0, 1, 0, 7, 15, 31, 63, 127, 255, 511, 1023, 2047, 4095, 2047, 10239, 32767, 65535, 131071, 2047, 264191, 2047, 1837055, 3934207, 8128511, 16777215, 33554431, 67108863] (by kernel_rfl) (by kernel_rfl) ?_
  intro ht2 w8 hd2
  have k4 := Kp.dr s hd2
  replace s := s.dr hd2
  replace e2 := e2.st k4
  replace e1 := e1.st k4
  replace e3 := e3.st k4
  replace kk := kk.trans k4
  replace kS2 := kS2.trans k4
  obtain ⟨x19, hx7, hf⟩ := bindS hf
  obtain ⟨h15, hx7⟩ := getS hx7
  obtain ⟨b3, o2, rfl⟩ := Elems.opn e2 hx7
  obtain ⟨cs13, hr13, ha5, hb5⟩ := Elems.getI e2S2 hx7
  obtain ⟨A14, u14, rfl, q17, q18, e14⟩ := hr13
  have hc14 := And.intro q17 q18
  have e14S2 := e14
  replace e14 := e14.st kS2
  refine RD.segM hT ht2 (by kernel_rfl) [0, 1, 2, 3, 4] [.slice (some ⟨b3, o2, none⟩) p0.Keys.length u2, .slice A14 x19.length u14] [] [.pointer (some ⟨b1, 2, none⟩), .slice (some ⟨b3, o2, none⟩) p0.Keys.length u2, .int .i64 x18, .pointer (some ⟨b3, o2 + x18.toNat * 1, none⟩), .slice A14 x19.length u14] [.cell ⟨b1, 2, none⟩ (.slice (some ⟨b3, o2, none⟩) p0.Keys.length u2), .idx x18 p0.Keys.length, .cell ⟨b3, o2 + x18.toNat * 1, none⟩ (.slice A14 x19.length u14)] (by kernel_rfl) (by rintro w' ⟨I', s, k⟩; have e2 := e2S2.st k; have e1 := e1S2.st k; have e3 := e3S2.st k; have e14 := e14S2.st k; have ha5 := ha5.st k hb5; exact ⟨s.cell (i := 0) (off := 2) rfl rfl, h15, ha5 0 _ rfl⟩) ⟨_, s.pick [0] 1 rfl, kS2⟩ ?_
  obtain ⟨x20, hx8, hf⟩ := bindS hf
  refine RD.op (i := 5) rfl (by kernel_rfl) (by kernel_rfl) (OK.call' en54 (by kernel_rfl) (c54 (F := (.blk b1 (.cells #[.bool p0.Leaf, .slice A1 p0.Pairs.length u1, .slice (some ⟨b3, o2, none⟩) p0.Keys.length u2, .slice A3 p0.Kids.length u3] 26 (0, 0))) :: F) x19 A14 u14 hc14 e14 s hx8) ?_)
  intro X7 hX7
  refine fun _ _ hJ => hJ X7 ?_
  clear s
  intro I5 w9 s k5
  refine hX7 _ _ ?_
  replace e2 := e2.st k5
  replace e14 := e14.st k5
  replace e1 := e1.st k5
  replace e3 := e3.st k5
  replace kk := kk.trans k5
  replace kS2 := kS2.trans k5
  refine ⟨fun _ => ⟨_, s.pick [0] 1 rfl, kS2⟩, RD.fold ?_⟩
  refine RD.segM hT ht2 (by kernel_rfl) [6] [] [(108, .bool (decide (¬ (x20 = true))))] [.bool (decide (¬ (x20 = true)))] [.veq (.bool (!x20)) (.bool (decide (¬ (x20 = true))))] (by kernel_rfl) (by rintro w' ⟨I', s, k⟩; have e2 := e2S2.st k; have e1 := e1S2.st k; have e3 := e3S2.st k; have e14 := e14S2.st k; exact not_b) ⟨_, s.pick [0] 1 rfl, kS2⟩ ?_
  by_cases h16 : ¬ (x20 = true)
  have hf := iteT h16 hf
  refine RD.segM hT ht2 (by kernel_rfl) [7, 8, 9, 10, 11, 12, 13, 14, 15, 16, 17, 18, 19, 20, 21, 22, 23, 24, 25, 26] [] [(109, .bool true)] [.bool true, undef, undef, undef, undef, undef, undef, undef, undef, undef, undef, undef, undef, undef, undef, undef, undef, undef, undef, .bool true] [.veq (.bool (decide (¬ (x20 = true)))) (.bool true)] (by kernel_rfl) (by rintro w' ⟨I', s, k⟩; have e2 := e2S2.st k; have e1 := e1S2.st k; have e3 := e3S2.st k; have e14 := e14S2.st k; exact bo_t h16) ⟨_, s.pick [0] 1 rfl, kS2⟩ ?_
  refine RD.done (by kernel_rfl) ?_
  refine WPK.condT (by kernel_rfl) ?_
  refine WPK.seq ?_
  refine WPK.region ?_
  refine RW.seg hT 1 [] [] [.bool false] [] (by kernel_rfl) (trivial) ?_
  refine RW.nil ?_
  refine WPK.ret (blockQ.ret (blockQ.ret (?_)))
  obtain rfl := someS hf
  refine Fin.of (rs := [.tmp 2]) hT [] (.bool false) [] rfl (by kernel_rfl) (trivial) ?_
  replace s := s.pick [] 1 rfl
  exact fun X h => vc rfl (h I5 _ s kk)
  have hf := iteF h16 hf
  refine RD.segM hT ht2 (by kernel_rfl) [7, 8, 9] [] [(109, .bool false)] [.bool false, .int .i64 x18, .bool (decide (x18 > 0))] [.veq (.bool (decide (¬ (x20 = true)))) (.bool false)] (by kernel_rfl) (by rintro w' ⟨I', s, k⟩; have e2 := e2S2.st k; have e1 := e1S2.st k; have e3 := e3S2.st k; have e14 := e14S2.st k; exact bo_f h16) ⟨_, s.pick [0] 1 rfl, kS2⟩ ?_
  by_cases h17 : x18 > 0
  have hf := iteT h17 hf
  obtain ⟨x21, hx9, hf⟩ := bindS hf
  obtain ⟨h18, hx9⟩ := getS hx9
  obtain ⟨cs14, hr14, ha6, hb6⟩ := Elems.getI e2S2 hx9
  obtain ⟨A15, u15, rfl, q19, q20, e15⟩ := hr14
  have hc15 := And.intro q19 q20
  have e15S2 := e15
  replace e15 := e15.st kS2
  obtain ⟨x22, hx10, hf⟩ := bindS hf
  obtain ⟨h19, hx10⟩ := getS hx10
  obtain ⟨cs15, hr15, ha7, hb7⟩ := Elems.getI e2S2 hx10
  obtain ⟨A16, u16, rfl, q21, q22, e16⟩ := hr15
  have hc16 := And.intro q21 q22
  have e16S2 := e16
  replace e16 := e16.st kS2
  refine RD.segM hT ht2 (by kernel_rfl) [10, 11, 12, 13, 14, 15, 16, 17, 18, 19, 20, 21, 22, 23, 24, 25, 26] [.slice (some ⟨b3, o2, none⟩) p0.Keys.length u2, .slice A15 x21.length u15, .string (strOfNums x21), .slice (some ⟨b3, o2, none⟩) p0.Keys.length u2, .slice A16 x22.length u16, .string (strOfNums x22)] [(112, .bool true)] [.bool true, .pointer (some ⟨b1, 2, none⟩), .slice (some ⟨b3, o2, none⟩) p0.Keys.length u2, .int .i64 x18, .int .i64 (IntKind.i64.wrap (x18 - 1)), .pointer (some ⟨b3, o2 + (IntKind.i64.wrap (x18 - 1)).toNat * 1, none⟩), .slice A15 x21.length u15, .string (strOfNums x21), .pointer (some ⟨b1, 2, none⟩), .slice (some ⟨b3, o2, none⟩) p0.Keys.length u2, .int .i64 x18, .pointer (some ⟨b3, o2 + x18.toNat * 1, none⟩), .slice A16 x22.length u16, .string (strOfNums x22), .bool (!(Op.bytesLess (strOfNums x21).toList (strOfNums x22).toList)), .bool (!(Op.bytesLess (strOfNums x21).toList (strOfNums x22).toList)), .bool (!(Op.bytesLess (strOfNums x21).toList (strOfNums x22).toList))] [.veq (.bool (decide (x18 > 0))) (.bool true), .cell ⟨b1, 2, none⟩ (.slice (some ⟨b3, o2, none⟩) p0.Keys.length u2), .idx (IntKind.i64.wrap (x18 - 1)) p0.Keys.length, .cell ⟨b3, o2 + (IntKind.i64.wrap (x18 - 1)).toNat * 1, none⟩ (.slice A15 x21.length u15), .bytes A15 x21.length (strOfNums x21), .cell ⟨b1, 2, none⟩ (.slice (some ⟨b3, o2, none⟩) p0.Keys.length u2), .idx x18 p0.Keys.length, .cell ⟨b3, o2 + x18.toNat * 1, none⟩ (.slice A16 x22.length u16), .bytes A16 x22.length (strOfNums x22)] (by kernel_rfl) (by rintro w' ⟨I', s, k⟩; have e2 := e2S2.st k; have e1 := e1S2.st k; have e3 := e3S2.st k; have e14 := e14S2.st k; have e15 := e15S2.st k; have e16 := e16S2.st k; have ha6 := ha6.st k hb6; have ha7 := ha7.st k hb7; exact ⟨bo_t h17, s.cell (i := 0) (off := 2) rfl rfl, h18, ha6 0 _ rfl, Elems.bytes e15, s.cell (i := 0) (off := 2) rfl rfl, h19, ha7 0 _ rfl, Elems.bytes e16⟩) ⟨_, s.pick [0] 1 rfl, kS2⟩ ?_
  refine RD.done (by kernel_rfl) ?_
  by_cases h20 : (!(Op.bytesLess (strOfNums x21).toList (strOfNums x22).toList)) = true
  have hf := iteT h20 hf
  refine WPK.condT (Eq.trans (b := .bool (!(Op.bytesLess (strOfNums x21).toList (strOfNums x22).toList))) (by kernel_rfl) (b_t h20)) ?_
  refine WPK.seq ?_
  refine WPK.region ?_
  refine RW.seg hT 1 [] [] [.bool false] [] (by kernel_rfl) (trivial) ?_
  refine RW.nil ?_
  refine WPK.ret (blockQ.ret (blockQ.ret (?_)))
  obtain rfl := someS hf
  refine Fin.of (rs := [.tmp 2]) hT [] (.bool false) [] rfl (by kernel_rfl) (trivial) ?_
  replace s := s.pick [] 1 rfl
  exact fun X h => vc rfl (h I5 _ s kk)
  have hf := iteF h20 hf
  refine WPK.condF (Eq.trans (b := .bool (!(Op.bytesLess (strOfNums x21).toList (strOfNums x22).toList))) (by kernel_rfl) (b_f h20)) ?_
  refine WPK.skip ?_
  refine WPK.region ?_
  refine RW.seg hT 3 [] [] [.int .i64 x18, .int .i64 (IntKind.i64.wrap (x18 + 1)), .int .i64 (IntKind.i64.wrap (x18 + 1))] [] (by kernel_rfl) (trivial) ?_
  refine RW.nil ?_
  subst hrec2
  exact ⟨n2, Nat.le_refl _, fun X h => kc (by kernel_rfl) rfl (h I5 (IntKind.i64.wrap (x18 + 1)) _ hf s kk e1 e2 e3)⟩
  have hf := iteF h17 hf
  refine RD.segM hT ht2 (by kernel_rfl) [10, 11, 12, 13, 14, 15, 16, 17, 18, 19, 20, 21, 22, 23, 24, 25, 26] [] [(112, .bool false)] [.bool false, undef, undef, undef, undef, undef, undef, undef, undef, undef, undef, undef, undef, undef, undef, .bool false, .bool false] [.veq (.bool (decide (x18 > 0))) (.bool false)] (by kernel_rfl) (by rintro w' ⟨I', s, k⟩; have e2 := e2S2.st k; have e1 := e1S2.st k; have e3 := e3S2.st k; have e14 := e14S2.st k; exact bo_f h17) ⟨_, s.pick [0] 1 rfl, kS2⟩ ?_
  refine RD.done (by kernel_rfl) ?_
  refine WPK.condF (by kernel_rfl) ?_
  refine WPK.skip ?_
  refine WPK.region ?_
  refine RW.seg hT 3 [] [] [.int .i64 x18, .int .i64 (IntKind.i64.wrap (x18 + 1)), .int .i64 (IntKind.i64.wrap (x18 + 1))] [] (by kernel_rfl) (trivial) ?_
  refine RW.nil ?_
  subst hrec2
  exact ⟨n2, Nat.le_refl _, fun X h => kc (by kernel_rfl) rfl (h I5 (IntKind.i64.wrap (x18 + 1)) _ hf s kk e1 e2 e3)⟩
  have hf := iteF h14 hf
  refine WPK.condF (Eq.trans (b := .bool (decide (x18 < (p0.Keys.length : Int)))) (by kernel_rfl) (bo_f h14)) ?_
  refine WPK.exit (blockQ.same ?_)
  refine WPK.seq ?_
  refine WPK.seq ?_
  refine WPK.region ?_
  refine RW.seg hT 1 [] [] [.int .i64 0] [] (by kernel_rfl) (trivial) ?_
  refine RW.nil ?_
  refine WPK.block ?_
  refine WPK.loop' (J := fun n3 D6 ds wz => ∀ X : Kont, (∀ (I6 : Nat → Prop) (x23 : Int) (w' : World), g18_l6 p0 n3 x23 = some r → St w1 M I6 ((.blk b1 (.cells #[.bool p0.Leaf, .slice A1 p0.Pairs.length u1, .slice A2 p0.Keys.length u2, .slice A3 p0.Kids.length u3] 26 (0, 0))) :: F) w' → Kp I w I6 w' → Elems rp_T_api_Pair I6 w' A1 p0.Pairs → Elems (Rp.slice (Rp.int .u8)) I6 w' A2 p0.Keys → Elems (Rp.int .i64) I6 w' A3 p0.Kids → X [(D6.getD 0 undef), .pointer (some ⟨b1, 0, none⟩), .bool false, (D6.getD 3 undef), (D6.getD 4 undef), .int .i64 x23, (D6.getD 6 undef), (D6.getD 7 undef), (D6.getD 8 undef), (D6.getD 9 undef), (D6.getD 10 undef), (D6.getD 11 undef), (D6.getD 12 undef), (D6.getD 13 undef), (D6.getD 14 undef), (D6.getD 15 undef), (D6.getD 16 undef), (D6.getD 17 undef), (D6.getD 18 undef), (D6.getD 19 undef), (D6.getD 20 undef), (D6.getD 21 undef), (D6.getD 22 undef), (D6.getD 23 undef), (D6.getD 24 undef), (D6.getD 25 undef), (D6.getD 26 undef), (D6.getD 27 undef), (D6.getD 28 undef), (D6.getD 29 undef), (D6.getD 30 undef), (D6.getD 31 undef), (D6.getD 32 undef), (D6.getD 33 undef), (D6.getD 34 undef), (D6.getD 35 undef), (D6.getD 36 undef), (D6.getD 37 undef), (D6.getD 38 undef), (D6.getD 39 undef), (D6.getD 40 undef), (D6.getD 41 undef), (D6.getD 42 undef), (D6.getD 43 undef), (D6.getD 44 undef), (D6.getD 45 undef), (D6.getD 46 undef), (D6.getD 47 undef), (D6.getD 48 undef), (D6.getD 49 undef), (D6.getD 50 undef), (D6.getD 51 undef), (D6.getD 52 undef), (D6.getD 53 undef), (D6.getD 54 undef), (D6.getD 55 undef), (D6.getD 56 undef), (D6.getD 57 undef), (D6.getD 58 undef), (D6.getD 59 undef), (D6.getD 60 undef), (D6.getD 61 undef), (D6.getD 62 undef), (D6.getD 63 undef), (D6.getD 64 undef), (D6.getD 65 undef), (D6.getD 66 undef), (D6.getD 67 undef), (D6.getD 68 undef), (D6.getD 69 undef), (D6.getD 70 undef), (D6.getD 71 undef), (D6.getD 72 undef), (D6.getD 73 undef), (D6.getD 74 undef), (D6.getD 75 undef), (D6.getD 76 undef), (D6.getD 77 undef), (D6.getD 78 undef), (D6.getD 79 undef), (D6.getD 80 undef), (D6.getD 81 undef), (D6.getD 82 undef), (D6.getD 83 undef), (D6.getD 84 undef), (D6.getD 85 undef), (D6.getD 86 undef), (D6.getD 87 undef), (D6.getD 88 undef), (D6.getD 89 undef), (D6.getD 90 undef), (D6.getD 91 undef), (D6.getD 92 undef), (D6.getD 93 undef), (D6.getD 94 undef), (D6.getD 95 undef), (D6.getD 96 undef), (D6.getD 97 undef), (D6.getD 98 undef), (D6.getD 99 undef), (D6.getD 100 undef), (D6.getD 101 undef), (D6.getD 102 undef), (D6.getD 103 undef), (D6.getD 104 undef), (D6.getD 105 undef), (D6.getD 106 undef), (D6.getD 107 undef), (D6.getD 108 undef), (D6.getD 109 undef), (D6.getD 110 undef), (D6.getD 111 undef), (D6.getD 112 undef), (D6.getD 113 undef), (D6.getD 114 undef), (D6.getD 115 undef), (D6.getD 116 undef), (D6.getD 117 undef), (D6.getD 118 undef), (D6.getD 119 undef), (D6.getD 120 undef), (D6.getD 121 undef), (D6.getD 122 undef), (D6.getD 123 undef), (D6.getD 124 undef), (D6.getD 125 undef), (D6.getD 126 undef), (D6.getD 127 undef), (D6.getD 128 undef), (D6.getD 129 undef), (D6.getD 130 undef), (D6.getD 131 undef), (D6.getD 132 undef), (D6.getD 133 undef), (D6.getD 134 undef), (D6.getD 135 undef), (D6.getD 136 undef), (D6.getD 137 undef), (D6.getD 138 undef), (D6.getD 139 undef), (D6.getD 140 undef), (D6.getD 141 undef), (D6.getD 142 undef)] [] w') → X D6 ds wz) FUEL (fun X h => kc (by kernel_rfl) rfl (h I4 0 _ hf s kk e1 e2 e3)) (fun _ _ _ hJ => hJ (fun _ _ _ => False) (by intro I6 x23 w10 hf s kk e1 e2 e3; exact noneS hf)) ?_
  intro X8 hX8
  refine fun n3 D6 _ _ hJ => hJ (X8 n3) ?_
  clear s
  intro I6 x23 w10 hf s kk e1 e2 e3
  refine hX8 _ _ _ _ ?_
  replace hf : g18_l6B p0 (g18_l6 p0 n3) x23 = some r := hf
  generalize hrec3 : g18_l6 p0 n3 = rec3 at hf
  unfold g18_l6B at hf
  refine WPK.seq ?_
  refine WPK.seq ?_
  refine WPK.region ?_
  refine RW.seg hT 5 [.slice A3 p0.Kids.length u3] [] [.int .i64 x23, .pointer (some ⟨b1, 3, none⟩), .slice A3 p0.Kids.length u3, .int .i64 (p0.Kids.length : Int), .bool (decide (x23 < (p0.Kids.length : Int)))] [.cell ⟨b1, 3, none⟩ (.slice A3 p0.Kids.length u3)] (by kernel_rfl) (s.cell (i := 0) (off := 3) rfl rfl) ?_
  refine RW.nil ?_
  by_cases h21 : x23 < (p0.Kids.length : Int)
  have hf := iteT h21 hf
  refine WPK.condT (Eq.trans (b := .bool (decide (x23 < (p0.Kids.length : Int)))) (by kernel_rfl) (bo_t h21)) ?_
  refine WPK.skip ?_
  refine WPK.seq ?_
  refine WPK.block ?_
  refine WPK.seq ?_
  refine WPK.region ?_
  obtain ⟨x24, hx11, hf⟩ := bindS hf
  obtain ⟨h22, hx11⟩ := getS hx11
  obtain ⟨b4, o3, rfl⟩ := Elems.opn e3 hx11
  obtain ⟨cs16, hr16, ha8⟩ := Elems.get e3 hx11
  obtain rfl : cs16 = [.int .i64 x24] := hr16
  refine RW.seg hT 5 [.slice (some ⟨b4, o3, none⟩) p0.Kids.length u3, .int .i64 x24] [] [.pointer (some ⟨b1, 3, none⟩), .slice (some ⟨b4, o3, none⟩) p0.Kids.length u3, .int .i64 x23, .pointer (some ⟨b4, o3 + x23.toNat * 1, none⟩), .int .i64 x24] [.cell ⟨b1, 3, none⟩ (.slice (some ⟨b4, o3, none⟩) p0.Kids.length u3), .idx x23 p0.Kids.length, .cell ⟨b4, o3 + x23.toNat * 1, none⟩ (.int .i64 x24)] (by kernel_rfl) (⟨s.cell (i := 0) (off := 3) rfl rfl, h22, ha8 0 _ rfl⟩) ?_
  obtain ⟨x25, hx12, hf⟩ := bindS hf
  refine RW.op (by kernel_rfl) (OK.call' en55 (by kernel_rfl) (c55 (F := (.blk b1 (.cells #[.bool p0.Leaf, .slice A1 p0.Pairs.length u1, .slice A2 p0.Keys.length u2, .slice (some ⟨b4, o3, none⟩) p0.Kids.length u3] 26 (0, 0))) :: F) x24 s hx12) ?_)
  intro X9 hX9
  refine fun _ _ hJ => hJ X9 ?_
  clear s
  intro I7 w11 s k6
  refine hX9 _ _ ?_
  replace e3 := e3.st k6
  replace e1 := e1.st k6
  replace e2 := e2.st k6
  replace kk := kk.trans k6
  refine RW.seg hT 1 [] [(142, .bool (decide (¬ (x25 = true))))] [.bool (decide (¬ (x25 = true)))] [.veq (.bool (!x25)) (.bool (decide (¬ (x25 = true))))] (by kernel_rfl) (not_b) ?_
  refine RW.nil ?_
  by_cases h23 : ¬ (x25 = true)
  have hf := iteT h23 hf
  refine WPK.condT (Eq.trans (b := .bool (decide (¬ (x25 = true)))) (by kernel_rfl) (bo_t h23)) ?_
  refine WPK.seq ?_
  refine WPK.region ?_
  refine RW.seg hT 1 [] [] [.bool false] [] (by kernel_rfl) (trivial) ?_
  refine RW.nil ?_
  refine WPK.ret (blockQ.ret (blockQ.ret (?_)))
  obtain rfl := someS hf
  refine Fin.of (rs := [.tmp 2]) hT [] (.bool false) [] rfl (by kernel_rfl) (trivial) ?_
  replace s := s.pick [] 1 rfl
  exact fun X h => vc rfl (h I7 _ s kk)
  have hf := iteF h23 hf
  refine WPK.condF (Eq.trans (b := .bool (decide (¬ (x25 = true)))) (by kernel_rfl) (bo_f h23)) ?_
  refine WPK.skip ?_
  refine WPK.region ?_
  refine RW.seg hT 3 [] [] [.int .i64 x23, .int .i64 (IntKind.i64.wrap (x23 + 1)), .int .i64 (IntKind.i64.wrap (x23 + 1))] [] (by kernel_rfl) (trivial) ?_
  refine RW.nil ?_
  subst hrec3
  exact ⟨n3, Nat.le_refl _, fun X h => kc (by kernel_rfl) rfl (h I7 (IntKind.i64.wrap (x23 + 1)) _ hf s kk e1 e2 e3)⟩
  have hf := iteF h21 hf
  refine WPK.condF (Eq.trans (b := .bool (decide (x23 < (p0.Kids.length : Int)))) (by kernel_rfl) (bo_f h21)) ?_
  refine WPK.exit (blockQ.same ?_)
  refine WPK.seq ?_
  refine WPK.region ?_
  refine RW.seg hT 1 [] [] [.bool true] [] (by kernel_rfl) (trivial) ?_
  refine RW.nil ?_
  refine WPK.ret (?_)
  obtain rfl := someS hf
  refine Fin.of (rs := [.tmp 2]) hT [] (.bool true) [] rfl (by kernel_rfl) (trivial) ?_
  replace s := s.pick [] 1 rfl
  exact fun X h => vc rfl (h I6 _ s kk)
  refine WPK.region ?_
  refine RW.seg hT 4 [.slice A1 p0.Pairs.length u1] [] [.pointer (some ⟨b1, 1, none⟩), .slice A1 p0.Pairs.length u1, .int .i64 (p0.Pairs.length : Int), .bool (decide ((p0.Pairs.length : Int) > 0))] [.cell ⟨b1, 1, none⟩ (.slice A1 p0.Pairs.length u1)] (by kernel_rfl) (s.cell (i := 0) (off := 1) rfl rfl) ?_
  by_cases h24 : (p0.Pairs.length : Int) > 0
  have hf := iteT h24 hf
  refine RW.seg hT 22 [] [(73, .bool true)] [.bool true, undef, undef, undef, undef, .bool true, .bool true, undef, undef, undef, undef, .bool true, .bool true, undef, undef, undef, undef, undef, undef, undef, undef, .bool true] [.veq (.bool (decide ((p0.Pairs.length : Int) > 0))) (.bool true)] (by kernel_rfl) (bo_t h24) ?_
  refine RW.nil ?_
  exact fun X h => kc (by kernel_rfl) rfl (h true hf)
  have hf := iteF h24 hf
  refine RW.seg hT 6 [.slice A2 p0.Keys.length u2] [(73, .bool false)] [.bool false, .pointer (some ⟨b1, 2, none⟩), .slice A2 p0.Keys.length u2, .int .i64 (p0.Keys.length : Int), .bool (decide ((p0.Keys.length : Int) < 1)), .bool (decide ((p0.Keys.length : Int) < 1))] [.veq (.bool (decide ((p0.Pairs.length : Int) > 0))) (.bool false), .cell ⟨b1, 2, none⟩ (.slice A2 p0.Keys.length u2)] (by kernel_rfl) (⟨bo_f h24, s.cell (i := 0) (off := 2) rfl rfl⟩) ?_
  by_cases h25 : (p0.Keys.length : Int) < 1
  have hf := iteT h25 hf
  refine RW.seg hT 16 [] [(79, .bool true)] [.bool true, undef, undef, undef, undef, .bool true, .bool true, undef, undef, undef, undef, undef, undef, undef, undef, .bool true] [.veq (.bool (decide ((p0.Keys.length : Int) < 1))) (.bool true)] (by kernel_rfl) (bo_t h25) ?_
  refine RW.nil ?_
  exact fun X h => kc (by kernel_rfl) rfl (h true hf)
  have hf := iteF h25 hf
  refine RW.seg hT 6 [.slice A2 p0.Keys.length u2] [(79, .bool false)] [.bool false, .pointer (some ⟨b1, 2, none⟩), .slice A2 p0.Keys.length u2, .int .i64 (p0.Keys.length : Int), .bool (decide ((p0.Keys.length : Int) > 255)), .bool (decide ((p0.Keys.length : Int) > 255))] [.veq (.bool (decide ((p0.Keys.length : Int) < 1))) (.bool false), .cell ⟨b1, 2, none⟩ (.slice A2 p0.Keys.length u2)] (by kernel_rfl) (⟨bo_f h25, s.cell (i := 0) (off := 2) rfl rfl⟩) ?_
  by_cases h26 : (p0.Keys.length : Int) > 255
  have hf := iteT h26 hf
  refine RW.seg hT 10 [] [(85, .bool true)] [.bool true, undef, undef, undef, undef, undef, undef, undef, undef, .bool true] [.veq (.bool (decide ((p0.Keys.length : Int) > 255))) (.bool true)] (by kernel_rfl) (bo_t h26) ?_
  refine RW.nil ?_
  exact fun X h => kc (by kernel_rfl) rfl (h true hf)
  have hf := iteF h26 hf
  refine RW.seg hT 10 [.slice A3 p0.Kids.length u3, .slice A2 p0.Keys.length u2] [(85, .bool false), (93, .bool (decide ((p0.Kids.length : Int) ≠ (IntKind.i64.wrap ((p0.Keys.length : Int) + 1)))))] [.bool false, .pointer (some ⟨b1, 3, none⟩), .slice A3 p0.Kids.length u3, .int .i64 (p0.Kids.length : Int), .pointer (some ⟨b1, 2, none⟩), .slice A2 p0.Keys.length u2, .int .i64 (p0.Keys.length : Int), .int .i64 (IntKind.i64.wrap ((p0.Keys.length : Int) + 1)), .bool (decide ((p0.Kids.length : Int) ≠ (IntKind.i64.wrap ((p0.Keys.length : Int) + 1)))), .bool (decide ((p0.Kids.length : Int) ≠ (IntKind.i64.wrap ((p0.Keys.length : Int) + 1))))] [.veq (.bool (decide ((p0.Keys.length : Int) > 255))) (.bool false), .cell ⟨b1, 3, none⟩ (.slice A3 p0.Kids.length u3), .cell ⟨b1, 2, none⟩ (.slice A2 p0.Keys.length u2), .veq (.bool ((p0.Kids.length : Int) != (IntKind.i64.wrap ((p0.Keys.length : Int) + 1)))) (.bool (decide ((p0.Kids.length : Int) ≠ (IntKind.i64.wrap ((p0.Keys.length : Int) + 1)))))] (by kernel_rfl) (⟨bo_f h26, s.cell (i := 0) (off := 3) rfl rfl, s.cell (i := 0) (off := 2) rfl rfl, ne_v⟩) ?_
  refine RW.nil ?_
  exact fun X h => kc (by kernel_rfl) rfl (h (decide ((p0.Kids.length : Int) ≠ (IntKind.i64.wrap ((p0.Keys.length : Int) + 1)))) hf)
theorem c17 {w1 w : World} {M I : Nat → Prop} {F : List It} (p0 : T_api_Node) (p1 : (List Int)) (A1 : Option Addr) (u1 : Nat) (A2 : Option Addr) (u2 : Nat) (A3 : Option Addr) (u3 : Nat) (A4 : Option Addr) (u4 : Nat) (hc1 : (p0.Pairs.length ≤ u1 ∧ u1 ≤ 9223372036854775807)) (e1 : Elems rp_T_api_Pair I w A1 p0.Pairs) (hc2 : (p0.Keys.length ≤ u2 ∧ u2 ≤ 9223372036854775807)) (e2 : Elems (Rp.slice (Rp.int .u8)) I w A2 p0.Keys) (hc3 : (p0.Kids.length ≤ u3 ∧ u3 ≤ 9223372036854775807)) (e3 : Elems (Rp.int .i64) I w A3 p0.Kids) (hc4 : (p1.length ≤ u4 ∧ u4 ≤ 9223372036854775807)) (e4 : Elems (Rp.int .u8) I w A4 p1) (s : St w1 M I (F) w) {r : (Int × Bool)} (hf : g17 p0 p1 = some r) :
    Ret Try.prog 17 [.agg #[.bool p0.Leaf, .slice A1 p0.Pairs.length u1, .slice A2 p0.Keys.length u2, .slice A3 p0.Kids.length u3], .slice A4 p1.length u4] w fun v wz => ∀ X : Value → World → Prop, (∀ (I' : Nat → Prop) (w' : World), St w1 M I' (F) w' → Kp I w I' w' → X (.tuple #[.int .i64 r.1, .bool r.2]) w') → X v wz := by
  have kk : Kp I w I w := Kp.refl
  unfold g17 at hf
  refine Ret.of Try.func17 rfl ?_
  refine WPK.seq ?_
  refine WPK.region ?_
  refine RW.op (by kernel_rfl) (OK.new hT (f := fun b => .pointer (some ⟨b, 0, none⟩)) (cs := [.bool p0.Leaf, .slice A1 p0.Pairs.length u1, .slice A2 p0.Keys.length u2, .slice A3 p0.Kids.length u3]) (e := 26) (c := .tt) s (by kernel_rfl) trivial ?_)
  clear s
  rintro w2 b1 s k1 -
  replace e1 := e1.st k1
  replace e2 := e2.st k1
  replace e3 := e3.st k1
  replace e4 := e4.st k1
  replace kk := kk.trans k1
  refine RW.seg hT 2 [] [] [.int .i64 0, .bool false] [] (by kernel_rfl) (trivial) ?_
  refine RW.nil ?_
  refine WPK.seq ?_
  refine WPK.seq ?_
  refine WPK.region ?_
  refine RW.seg hT 1 [.agg #[.bool p0.Leaf, .slice A1 p0.Pairs.length u1, .slice A2 p0.Keys.length u2, .slice A3 p0.Kids.length u3]] [] [.agg #[.bool p0.Leaf, .slice A1 p0.Pairs.length u1, .slice A2 p0.Keys.length u2, .slice A3 p0.Kids.length u3]] [.cells ⟨b1, 0, none⟩ [.bool p0.Leaf, .slice A1 p0.Pairs.length u1, .slice A2 p0.Keys.length u2, .slice A3 p0.Kids.length u3] 4] (by kernel_rfl) (s.cells (i := 0) rfl rfl rfl) ?_
  obtain ⟨x1, hx1, hf⟩ := bindS hf
  refine RW.op (by kernel_rfl) (OK.call' en18 (by kernel_rfl) (c18 (F := (.blk b1 (.cells #[.bool p0.Leaf, .slice A1 p0.Pairs.length u1, .slice A2 p0.Keys.length u2, .slice A3 p0.Kids.length u3] 26 (0, 0))) :: F) p0 A1 u1 A2 u2 A3 u3 hc1 e1 hc2 e2 hc3 e3 s hx1) ?_)
  intro X1 hX1
  refine fun _ _ hJ => hJ X1 ?_
  clear s
  intro I1 w3 s k2
  refine hX1 _ _ ?_
  replace e1 := e1.st k2
  replace e2 := e2.st k2
  replace e3 := e3.st k2
  replace e4 := e4.st k2
  replace kk := kk.trans k2
  refine RW.seg hT 1 [] [(9, .bool (decide (¬ (x1 = true))))] [.bool (decide (¬ (x1 = true)))] [.veq (.bool (!x1)) (.bool (decide (¬ (x1 = true))))] (by kernel_rfl) (not_b) ?_
  refine RW.nil ?_
  by_cases h1 : ¬ (x1 = true)
  have hf := iteT h1 hf
  refine WPK.condT (Eq.trans (b := .bool (decide (¬ (x1 = true)))) (by kernel_rfl) (bo_t h1)) ?_
  refine WPK.seq ?_
  refine WPK.region ?_
  refine RW.seg hT 2 [] [] [.int .i64 0, .bool false] [] (by kernel_rfl) (trivial) ?_
  refine RW.nil ?_
  refine WPK.ret (?_)
  obtain rfl := someS hf
  refine Fin.of (rs := [.tmp 4, .tmp 5]) hT [] (.tuple #[.int .i64 0, .bool false]) [] rfl (by kernel_rfl) (trivial) ?_
  replace s := s.pick [] 1 rfl
  exact fun X h => vc rfl (h I1 _ s kk)
  have hf := iteF h1 hf
  refine WPK.condF (Eq.trans (b := .bool (decide (¬ (x1 = true)))) (by kernel_rfl) (bo_f h1)) ?_
  refine WPK.skip ?_
  refine WPK.seq ?_
  refine WPK.region ?_
  refine RW.seg hT 1 [] [] [.int .i64 0] [] (by kernel_rfl) (trivial) ?_
  refine RW.nil ?_
  refine WPK.seq ?_
  refine WPK.cut' (Kn fun D1 ds wz => ∀ X : Kont, (∀ (I2 : Nat → Prop) (x2 : Int) (w' : World), g17_j1 p0 p1 x2 = some r → St w1 M I2 ((.blk b1 (.cells #[.bool p0.Leaf, .slice A1 p0.Pairs.length u1, .slice A2 p0.Keys.length u2, .slice A3 p0.Kids.length u3] 26 (0, 0))) :: F) w' → Kp I w I2 w' → Elems (Rp.int .u8) I2 w' A4 p1 → Elems rp_T_api_Pair I2 w' A1 p0.Pairs → Elems (Rp.slice (Rp.int .u8)) I2 w' A2 p0.Keys → Elems (Rp.int .i64) I2 w' A3 p0.Kids → X [(D1.getD 0 undef), .slice A4 p1.length u4, .pointer (some ⟨b1, 0, none⟩), (D1.getD 3 undef), .int .i64 0, .bool false, .int .i64 x2, (D1.getD 7 undef), (D1.getD 8 undef), (D1.getD 9 undef), (D1.getD 10 undef), (D1.getD 11 undef), (D1.getD 12 undef), (D1.getD 13 undef), (D1.getD 14 undef), (D1.getD 15 undef), (D1.getD 16 undef), (D1.getD 17 undef), (D1.getD 18 undef), (D1.getD 19 undef), (D1.getD 20 undef), (D1.getD 21 undef), (D1.getD 22 undef), (D1.getD 23 undef), (D1.getD 24 undef), (D1.getD 25 undef), (D1.getD 26 undef), (D1.getD 27 undef), (D1.getD 28 undef), undef, undef, undef, undef, undef, undef, undef, undef, undef, undef, undef, undef, undef, undef, undef, undef, undef, undef] [] w') → X D1 ds wz) ?_ ?_
  intro X2 hX2
  refine fun D1 _ _ hJ => hJ X2 ?_
  clear s
  intro I2 x2 w4 hf s kk e4 e1 e2 e3
  refine hX2 _ _ _ ?_
  unfold g17_j1 at hf
  refine WPK.seq ?_
  have e4S1 := e4
  have e1S1 := e1
  have e2S1 := e2
  have e3S1 := e3
  have kS1 : Kp I2 w4 I2 w4 := Kp.refl
  refine WPK.drawM (fun w' => ∃ I' : Nat → Prop, St w1 M I' ((.blk b1 (.cells #[.bool p0.Leaf, .slice A1 p0.Pairs.length u1, .slice A2 p0.Keys.length u2, .slice A3 p0.Kids.length u3] 26 (0, 0))) :: F) w' ∧ Kp I2 w4 I' w') 20 [0, 0, 0, 4, 12, 30, 62, 126, 254, 126, 1022, 2046, 4094, 8190, 126, 16510, 65534, 131070, 127, 524287] (by kernel_rfl) (by kernel_rfl) ?_
  intro ht1 w5 hd1
  have k3 := Kp.dr s hd1
  replace s := s.dr hd1
  replace e4 := e4.st k3
  replace e1 := e1.st k3
  replace e2 := e2.st k3
  replace e3 := e3.st k3
  replace kk := kk.trans k3
  replace kS1 := kS1.trans k3
  refine RD.segM hT ht1 (by kernel_rfl) [0, 1, 2, 3, 4, 5] [.slice A1 p0.Pairs.length u1] [] [.int .i64 x2, .int .i64 x2, .pointer (some ⟨b1, 1, none⟩), .slice A1 p0.Pairs.length u1, .int .i64 (p0.Pairs.length : Int), .bool (decide (x2 < (p0.Pairs.length : Int)))] [.cell ⟨b1, 1, none⟩ (.slice A1 p0.Pairs.length u1)] (by kernel_rfl) (by rintro w' ⟨I', s, k⟩; have e4 := e4S1.st k; have e1 := e1S1.st k; have e2 := e2S1.st k; have e3 := e3S1.st k; exact s.cell (i := 0) (off := 1) rfl rfl) ⟨_, s.pick [0] 1 rfl, kS1⟩ ?_
  by_cases h2 : x2 < (p0.Pairs.length : Int)
  have hf := iteT h2 hf
  obtain ⟨x3, hx2, hf⟩ := bindS hf
  obtain ⟨h3, hx2⟩ := getS hx2
  obtain ⟨b2, o1, rfl⟩ := Elems.opn e1 hx2
  obtain ⟨cs1, hr1, ha1, hb1⟩ := Elems.getI e1S1 hx2
  obtain ⟨cs2, cs3, rfl, hr2, hr3⟩ := hr1
  obtain ⟨A5, u5, rfl, q1, q2, e5⟩ := hr2
  have hc5 := And.intro q1 q2
  obtain ⟨A6, u6, rfl, q3, q4, e6⟩ := hr3
  have hc6 := And.intro q3 q4
  have e5S1 := e5
  replace e5 := e5.st kS1
  have e6S1 := e6
  replace e6 := e6.st kS1
  refine RD.segM hT ht1 (by kernel_rfl) [6, 7, 8, 9, 10, 11, 12, 13, 14, 15, 16, 17, 18, 19] [.slice (some ⟨b2, o1, none⟩) p0.Pairs.length u1, .slice A5 x3.Key.length u5, .string (strOfNums x3.Key), .string (strOfNums p1)] [(35, .bool true), (45, .bool (decide ((strOfNums x3.Key).toList = (strOfNums p1).toList)))] [.bool true, .pointer (some ⟨b1, 1, none⟩), .slice (some ⟨b2, o1, none⟩) p0.Pairs.length u1, .int .i64 x2, .pointer (some ⟨b2, o1 + x2.toNat * 2, none⟩), .pointer (some ⟨b2, o1 + x2.toNat * 2, none⟩), .slice A5 x3.Key.length u5, .string (strOfNums x3.Key), .slice A4 p1.length u4, .string (strOfNums p1), .bool (decide ((strOfNums x3.Key).toList = (strOfNums p1).toList)), .bool (decide ((strOfNums x3.Key).toList = (strOfNums p1).toList)), .int .i64 x2, .bool (decide ((strOfNums x3.Key).toList = (strOfNums p1).toList))] [.veq (.bool (decide (x2 < (p0.Pairs.length : Int)))) (.bool true), .cell ⟨b1, 1, none⟩ (.slice (some ⟨b2, o1, none⟩) p0.Pairs.length u1), .idx x2 p0.Pairs.length, .cell ⟨b2, o1 + x2.toNat * 2, none⟩ (.slice A5 x3.Key.length u5), .bytes A5 x3.Key.length (strOfNums x3.Key), .bytes A4 p1.length (strOfNums p1), .veq (.bool ((strOfNums x3.Key).toList == (strOfNums p1).toList)) (.bool (decide ((strOfNums x3.Key).toList = (strOfNums p1).toList)))] (by kernel_rfl) (by rintro w' ⟨I', s, k⟩; have e4 := e4S1.st k; have e1 := e1S1.st k; have e2 := e2S1.st k; have e3 := e3S1.st k; have e5 := e5S1.st k; have e6 := e6S1.st k; have ha1 := ha1.st k hb1; exact ⟨bo_t h2, s.cell (i := 0) (off := 1) rfl rfl, h3, ha1 0 _ rfl, Elems.bytes e5, Elems.bytes e4, beq_v⟩) ⟨_, s.pick [0] 1 rfl, kS1⟩ ?_
  refine RD.done (by kernel_rfl) ?_
  refine WPK.ret (?_)
  obtain rfl := someS hf
  refine Fin.of (rs := [.tmp 4, .tmp 5]) hT [] (.tuple #[.int .i64 x2, .bool (decide ((strOfNums x3.Key).toList = (strOfNums p1).toList))]) [] rfl (by kernel_rfl) (trivial) ?_
  replace s := s.pick [] 1 rfl
  exact fun X h => vc rfl (h I2 _ s kk)
  have hf := iteF h2 hf
  refine RD.segM hT ht1 (by kernel_rfl) [6, 7, 8, 9, 10, 11, 12, 13, 14, 15, 16, 17, 18, 19] [] [(35, .bool false)] [.bool false, undef, undef, undef, undef, undef, undef, undef, undef, undef, undef, .bool false, .int .i64 x2, .bool false] [.veq (.bool (decide (x2 < (p0.Pairs.length : Int)))) (.bool false)] (by kernel_rfl) (by rintro w' ⟨I', s, k⟩; have e4 := e4S1.st k; have e1 := e1S1.st k; have e2 := e2S1.st k; have e3 := e3S1.st k; exact bo_f h2) ⟨_, s.pick [0] 1 rfl, kS1⟩ ?_
  refine RD.done (by kernel_rfl) ?_
  refine WPK.ret (?_)
  obtain rfl := someS hf
  refine Fin.of (rs := [.tmp 4, .tmp 5]) hT [] (.tuple #[.int .i64 x2, .bool false]) [] rfl (by kernel_rfl) (trivial) ?_
  replace s := s.pick [] 1 rfl
  exact fun X h => vc rfl (h I2 _ s kk)
  refine WPK.block ?_
  refine WPK.loop' (J := fun n1 D2 ds wz => ∀ X : Kont, (∀ (I3 : Nat → Prop) (x4 : Int) (w' : World), g17_l2 p0 p1 n1 x4 = some r → St w1 M I3 ((.blk b1 (.cells #[.bool p0.Leaf, .slice A1 p0.Pairs.length u1, .slice A2 p0.Keys.length u2, .slice A3 p0.Kids.length u3] 26 (0, 0))) :: F) w' → Kp I w I3 w' → Elems (Rp.int .u8) I3 w' A4 p1 → Elems rp_T_api_Pair I3 w' A1 p0.Pairs → Elems (Rp.slice (Rp.int .u8)) I3 w' A2 p0.Keys → Elems (Rp.int .i64) I3 w' A3 p0.Kids → X [(D2.getD 0 undef), .slice A4 p1.length u4, .pointer (some ⟨b1, 0, none⟩), (D2.getD 3 undef), .int .i64 0, .bool false, .int .i64 x4, (D2.getD 7 undef), (D2.getD 8 undef), (D2.getD 9 undef), (D2.getD 10 undef), (D2.getD 11 undef), (D2.getD 12 undef), (D2.getD 13 undef), (D2.getD 14 undef), (D2.getD 15 undef), (D2.getD 16 undef), (D2.getD 17 undef), (D2.getD 18 undef), (D2.getD 19 undef), (D2.getD 20 undef), (D2.getD 21 undef), (D2.getD 22 undef), (D2.getD 23 undef), (D2.getD 24 undef), (D2.getD 25 undef), (D2.getD 26 undef), (D2.getD 27 undef), (D2.getD 28 undef), undef, undef, undef, undef, undef, undef, undef, undef, undef, undef, undef, undef, undef, undef, undef, undef, undef, undef] [] w') → X D2 ds wz) FUEL (fun X h => kc (by kernel_rfl) rfl (h I1 0 _ hf s kk e4 e1 e2 e3)) (fun _ _ _ hJ => hJ (fun _ _ _ => False) (by intro I3 x4 w6 hf s kk e4 e1 e2 e3; exact noneS hf)) ?_
  intro X3 hX3
  refine fun n1 D2 _ _ hJ => hJ (X3 n1) ?_
  clear s
  intro I3 x4 w6 hf s kk e4 e1 e2 e3
  refine hX3 _ _ _ _ ?_
  replace hf : g17_l2B p0 p1 (g17_l2 p0 p1 n1) x4 = some r := hf
  generalize hrec1 : g17_l2 p0 p1 n1 = rec1 at hf
  unfold g17_l2B at hf
  refine WPK.seq ?_
  refine WPK.seq ?_
  have e4S2 := e4
  have e1S2 := e1
  have e2S2 := e2
  have e3S2 := e3
  have kS2 : Kp I3 w6 I3 w6 := Kp.refl
  refine WPK.drawM (fun w' => ∃ I' : Nat → Prop, St w1 M I' ((.blk b1 (.cells #[.bool p0.Leaf, .slice A1 p0.Pairs.length u1, .slice A2 p0.Keys.length u2, .slice A3 p0.Kids.length u3] 26 (0, 0))) :: F) w' ∧ Kp I3 w6 I' w') 17 [0, 0, 2, 6, 15, 31, 63, 127, 63, 511, 1023, 2047, 4095, 63, 8255, 32767, 65535] (by kernel_rfl) (by kernel_rfl) ?_
  intro ht2 w7 hd2
  have k4 := Kp.dr s hd2
  replace s := s.dr hd2
  replace e4 := e4.st k4
  replace e1 := e1.st k4
  replace e2 := e2.st k4
  replace e3 := e3.st k4
  replace kk := kk.trans k4
  replace kS2 := kS2.trans k4
  refine RD.segM hT ht2 (by kernel_rfl) [0, 1, 2, 3, 4] [.slice A1 p0.Pairs.length u1] [] [.int .i64 x4, .pointer (some ⟨b1, 1, none⟩), .slice A1 p0.Pairs.length u1, .int .i64 (p0.Pairs.length : Int), .bool (decide (x4 < (p0.Pairs.length : Int)))] [.cell ⟨b1, 1, none⟩ (.slice A1 p0.Pairs.length u1)] (by kernel_rfl) (by rintro w' ⟨I', s, k⟩; have e4 := e4S2.st k; have e1 := e1S2.st k; have e2 := e2S2.st k; have e3 := e3S2.st k; exact s.cell (i := 0) (off := 1) rfl rfl) ⟨_, s.pick [0] 1 rfl, kS2⟩ ?_
  by_cases h4 : x4 < (p0.Pairs.length : Int)
  have hf := iteT h4 hf
  obtain ⟨x5, hx3, hf⟩ := bindS hf
  obtain ⟨h5, hx3⟩ := getS hx3
  obtain ⟨b3, o2, rfl⟩ := Elems.opn e1 hx3
  obtain ⟨cs4, hr4, ha2, hb2⟩ := Elems.getI e1S2 hx3
  obtain ⟨cs5, cs6, rfl, hr5, hr6⟩ := hr4
  obtain ⟨A7, u7, rfl, q5, q6, e7⟩ := hr5
  have hc7 := And.intro q5 q6
  obtain ⟨A8, u8, rfl, q7, q8, e8⟩ := hr6
  have hc8 := And.intro q7 q8
  have e7S2 := e7
  replace e7 := e7.st kS2
  have e8S2 := e8
  replace e8 := e8.st kS2
  refine RD.segM hT ht2 (by kernel_rfl) [5, 6, 7, 8, 9, 10, 11, 12, 13, 14, 15, 16] [.slice (some ⟨b3, o2, none⟩) p0.Pairs.length u1, .slice A7 x5.Key.length u7, .string (strOfNums x5.Key), .string (strOfNums p1)] [(15, .bool true)] [.bool true, .pointer (some ⟨b1, 1, none⟩), .slice (some ⟨b3, o2, none⟩) p0.Pairs.length u1, .int .i64 x4, .pointer (some ⟨b3, o2 + x4.toNat * 2, none⟩), .pointer (some ⟨b3, o2 + x4.toNat * 2, none⟩), .slice A7 x5.Key.length u7, .string (strOfNums x5.Key), .slice A4 p1.length u4, .string (strOfNums p1), .bool (Op.bytesLess (strOfNums x5.Key).toList (strOfNums p1).toList), .bool (Op.bytesLess (strOfNums x5.Key).toList (strOfNums p1).toList)] [.veq (.bool (decide (x4 < (p0.Pairs.length : Int)))) (.bool true), .cell ⟨b1, 1, none⟩ (.slice (some ⟨b3, o2, none⟩) p0.Pairs.length u1), .idx x4 p0.Pairs.length, .cell ⟨b3, o2 + x4.toNat * 2, none⟩ (.slice A7 x5.Key.length u7), .bytes A7 x5.Key.length (strOfNums x5.Key), .bytes A4 p1.length (strOfNums p1)] (by kernel_rfl) (by rintro w' ⟨I', s, k⟩; have e4 := e4S2.st k; have e1 := e1S2.st k; have e2 := e2S2.st k; have e3 := e3S2.st k; have e7 := e7S2.st k; have e8 := e8S2.st k; have ha2 := ha2.st k hb2; exact ⟨bo_t h4, s.cell (i := 0) (off := 1) rfl rfl, h5, ha2 0 _ rfl, Elems.bytes e7, Elems.bytes e4⟩) ⟨_, s.pick [0] 1 rfl, kS2⟩ ?_
  refine RD.done (by kernel_rfl) ?_
  by_cases h6 : (Op.bytesLess (strOfNums x5.Key).toList (strOfNums p1).toList) = true
  have hf := iteT h6 hf
  refine WPK.condT (Eq.trans (b := .bool (Op.bytesLess (strOfNums x5.Key).toList (strOfNums p1).toList)) (by kernel_rfl) (b_t h6)) ?_
  refine WPK.skip ?_
  refine WPK.block ?_
  refine WPK.region ?_
  refine RW.seg hT 3 [] [] [.int .i64 x4, .int .i64 (IntKind.i64.wrap (x4 + 1)), .int .i64 (IntKind.i64.wrap (x4 + 1))] [] (by kernel_rfl) (trivial) ?_
  refine RW.nil ?_
  subst hrec1
  exact ⟨n1, Nat.le_refl _, fun X h => kc (by kernel_rfl) rfl (h I3 (IntKind.i64.wrap (x4 + 1)) _ hf s kk e4 e1 e2 e3)⟩
  have hf := iteF h6 hf
  refine WPK.condF (Eq.trans (b := .bool (Op.bytesLess (strOfNums x5.Key).toList (strOfNums p1).toList)) (by kernel_rfl) (b_f h6)) ?_
  refine WPK.exit (blockQ.same ?_)
  exact fun X h => kc (by kernel_rfl) rfl (h I3 x4 _ hf s kk e4 e1 e2 e3)
  have hf := iteF h4 hf
  refine RD.segM hT ht2 (by kernel_rfl) [5, 6, 7, 8, 9, 10, 11, 12, 13, 14, 15, 16] [] [(15, .bool false)] [.bool false, undef, undef, undef, undef, undef, undef, undef, undef, undef, undef, .bool false] [.veq (.bool (decide (x4 < (p0.Pairs.length : Int)))) (.bool false)] (by kernel_rfl) (by rintro w' ⟨I', s, k⟩; have e4 := e4S2.st k; have e1 := e1S2.st k; have e2 := e2S2.st k; have e3 := e3S2.st k; exact bo_f h4) ⟨_, s.pick [0] 1 rfl, kS2⟩ ?_
  refine RD.done (by kernel_rfl) ?_
  refine WPK.condF (by kernel_rfl) ?_
  refine WPK.exit (blockQ.same ?_)
  exact fun X h => kc (by kernel_rfl) rfl (h I3 x4 _ hf s kk e4 e1 e2 e3)
theorem c19 {w1 w : World} {M I : Nat → Prop} {F : List It} (p0 : T_api_Node) (p1 : (List Int)) (A1 : Option Addr) (u1 : Nat) (A2 : Option Addr) (u2 : Nat) (A3 : Option Addr) (u3 : Nat) (A4 : Option Addr) (u4 : Nat) (hc1 : (p0.Pairs.length ≤ u1 ∧ u1 ≤ 9223372036854775807)) (e1 : Elems rp_T_api_Pair I w A1 p0.Pairs) (hc2 : (p0.Keys.length ≤ u2 ∧ u2 ≤ 9223372036854775807)) (e2 : Elems (Rp.slice (Rp.int .u8)) I w A2 p0.Keys) (hc3 : (p0.Kids.length ≤ u3 ∧ u3 ≤ 9223372036854775807)) (e3 : Elems (Rp.int .i64) I w A3 p0.Kids) (hc4 : (p1.length ≤ u4 ∧ u4 ≤ 9223372036854775807)) (e4 : Elems (Rp.int .u8) I w A4 p1) (s : St w1 M I (F) w) {r : Int} (hf : g19 p0 p1 = some r) :
    Ret Try.prog 19 [.agg #[.bool p0.Leaf, .slice A1 p0.Pairs.length u1, .slice A2 p0.Keys.length u2, .slice A3 p0.Kids.length u3], .slice A4 p1.length u4] w fun v wz => ∀ X : Value → World → Prop, (∀ (I' : Nat → Prop) (w' : World), St w1 M I' (F) w' → Kp I w I' w' → X (.int .i64 r) w') → X v wz := by
  have kk : Kp I w I w := Kp.refl
  unfold g19 at hf
  refine Ret.of Try.func19 rfl ?_
  refine WPK.seq ?_
  refine WPK.region ?_
  refine RW.op (by kernel_rfl) (OK.new hT (f := fun b => .pointer (some ⟨b, 0, none⟩)) (cs := [.bool p0.Leaf, .slice A1 p0.Pairs.length u1, .slice A2 p0.Keys.length u2, .slice A3 p0.Kids.length u3]) (e := 26) (c := .tt) s (by kernel_rfl) trivial ?_)
  clear s
  rintro w2 b1 s k1 -
  replace e1 := e1.st k1
  replace e2 := e2.st k1
  replace e3 := e3.st k1
  replace e4 := e4.st k1
  replace kk := kk.trans k1
  refine RW.seg hT 1 [] [] [.int .i64 0] [] (by kernel_rfl) (trivial) ?_
  refine RW.nil ?_
  refine WPK.seq ?_
  refine WPK.region ?_
  refine RW.seg hT 1 [] [] [.int .i64 0] [] (by kernel_rfl) (trivial) ?_
  refine RW.nil ?_
  refine WPK.seq ?_
  refine WPK.block ?_
  refine WPK.loop' (J := fun n1 D1 ds wz => ∀ X : Kont, (∀ (I1 : Nat → Prop) (x1 : Int) (w' : World), g19_l1 p0 p1 n1 x1 = some r → St w1 M I1 ((.blk b1 (.cells #[.bool p0.Leaf, .slice A1 p0.Pairs.length u1, .slice A2 p0.Keys.length u2, .slice A3 p0.Kids.length u3] 26 (0, 0))) :: F) w' → Kp I w I1 w' → Elems (Rp.int .u8) I1 w' A4 p1 → Elems rp_T_api_Pair I1 w' A1 p0.Pairs → Elems (Rp.slice (Rp.int .u8)) I1 w' A2 p0.Keys → Elems (Rp.int .i64) I1 w' A3 p0.Kids → X [(D1.getD 0 undef), .slice A4 p1.length u4, .pointer (some ⟨b1, 0, none⟩), (D1.getD 3 undef), .int .i64 0, .int .i64 x1, (D1.getD 6 undef), (D1.getD 7 undef), (D1.getD 8 undef), (D1.getD 9 undef), (D1.getD 10 undef), (D1.getD 11 undef), (D1.getD 12 undef), (D1.getD 13 undef), (D1.getD 14 undef), (D1.getD 15 undef), (D1.getD 16 undef), (D1.getD 17 undef), (D1.getD 18 undef), (D1.getD 19 undef), (D1.getD 20 undef), (D1.getD 21 undef), (D1.getD 22 undef), (D1.getD 23 undef), (D1.getD 24 undef), (D1.getD 25 undef), (D1.getD 26 undef), (D1.getD 27 undef), undef] [] w') → X D1 ds wz) FUEL (fun X h => kc (by kernel_rfl) rfl (h I 0 _ hf s kk e4 e1 e2 e3)) (fun _ _ _ hJ => hJ (fun _ _ _ => False) (by intro I1 x1 w3 hf s kk e4 e1 e2 e3; exact noneS hf)) ?_
  intro X1 hX1
  refine fun n1 D1 _ _ hJ => hJ (X1 n1) ?_
  clear s
  intro I1 x1 w3 hf s kk e4 e1 e2 e3
  refine hX1 _ _ _ _ ?_
  replace hf : g19_l1B p0 p1 (g19_l1 p0 p1 n1) x1 = some r := hf
  generalize hrec1 : g19_l1 p0 p1 n1 = rec1 at hf
  unfold g19_l1B at hf
  refine WPK.seq ?_
  refine WPK.seq ?_
  have e4S1 := e4
  have e1S1 := e1
  have e2S1 := e2
  have e3S1 := e3
  have kS1 : Kp I1 w3 I1 w3 := Kp.refl
  refine WPK.drawM (fun w' => ∃ I' : Nat → Prop, St w1 M I' ((.blk b1 (.cells #[.bool p0.Leaf, .slice A1 p0.Pairs.length u1, .slice A2 p0.Keys.length u2, .slice A3 p0.Kids.length u3] 26 (0, 0))) :: F) w' ∧ Kp I1 w3 I' w') 20 [0, 1, 3, 7, 7, 23, 55, 127, 255, 511, 1023, 2047, 1023, 8191, 16383, 32767, 1023, 66559, 262143, 524287] (by kernel_rfl) (by kernel_rfl) ?_
  intro ht1 w4 hd1
  have k2 := Kp.dr s hd1
  replace s := s.dr hd1
  replace e4 := e4.st k2
  replace e1 := e1.st k2
  replace e2 := e2.st k2
  replace e3 := e3.st k2
  replace kk := kk.trans k2
  replace kS1 := kS1.trans k2
  refine RD.segM hT ht1 (by kernel_rfl) [0] [.agg #[.bool p0.Leaf, .slice A1 p0.Pairs.length u1, .slice A2 p0.Keys.length u2, .slice A3 p0.Kids.length u3]] [] [.agg #[.bool p0.Leaf, .slice A1 p0.Pairs.length u1, .slice A2 p0.Keys.length u2, .slice A3 p0.Kids.length u3]] [.cells ⟨b1, 0, none⟩ [.bool p0.Leaf, .slice A1 p0.Pairs.length u1, .slice A2 p0.Keys.length u2, .slice A3 p0.Kids.length u3] 4] (by kernel_rfl) (by rintro w' ⟨I', s, k⟩; have e4 := e4S1.st k; have e1 := e1S1.st k; have e2 := e2S1.st k; have e3 := e3S1.st k; exact s.cells (i := 0) rfl rfl rfl) ⟨_, s.pick [0] 1 rfl, kS1⟩ ?_
  obtain ⟨x2, hx1, hf⟩ := bindS hf
  refine RD.op (i := 1) rfl (by kernel_rfl) (by kernel_rfl) (OK.call' en18 (by kernel_rfl) (c18 (F := (.blk b1 (.cells #[.bool p0.Leaf, .slice A1 p0.Pairs.length u1, .slice A2 p0.Keys.length u2, .slice A3 p0.Kids.length u3] 26 (0, 0))) :: F) p0 A1 u1 A2 u2 A3 u3 hc1 e1 hc2 e2 hc3 e3 s hx1) ?_)
  intro X2 hX2
  refine fun _ _ hJ => hJ X2 ?_
  clear s
  intro I2 w5 s k3
  refine hX2 _ _ ?_
  replace e4 := e4.st k3
  replace e1 := e1.st k3
  replace e2 := e2.st k3
  replace e3 := e3.st k3
  replace kk := kk.trans k3
  replace kS1 := kS1.trans k3
  refine ⟨fun _ => ⟨_, s.pick [0] 1 rfl, kS1⟩, RD.fold ?_⟩
  by_cases h1 : x2 = true
  have hf := iteT h1 hf
  refine RD.segM hT ht1 (by kernel_rfl) [2, 3, 4, 5, 6, 7, 8] [.slice A2 p0.Keys.length u2] [(8, .bool true)] [.bool true, .int .i64 x1, .pointer (some ⟨b1, 2, none⟩), .slice A2 p0.Keys.length u2, .int .i64 (p0.Keys.length : Int), .bool (decide (x1 < (p0.Keys.length : Int))), .bool (decide (x1 < (p0.Keys.length : Int)))] [.veq (.bool (x2)) (.bool true), .cell ⟨b1, 2, none⟩ (.slice A2 p0.Keys.length u2)] (by kernel_rfl) (by rintro w' ⟨I', s, k⟩; have e4 := e4S1.st k; have e1 := e1S1.st k; have e2 := e2S1.st k; have e3 := e3S1.st k; exact ⟨b_t h1, s.cell (i := 0) (off := 2) rfl rfl⟩) ⟨_, s.pick [0] 1 rfl, kS1⟩ ?_
  by_cases h2 : x1 < (p0.Keys.length : Int)
  have hf := iteT h2 hf
  obtain ⟨x3, hx2, hf⟩ := bindS hf
  obtain ⟨h3, hx2⟩ := getS hx2
  obtain ⟨b2, o1, rfl⟩ := Elems.opn e2 hx2
  obtain ⟨cs1, hr1, ha1, hb1⟩ := Elems.getI e2S1 hx2
  obtain ⟨A5, u5, rfl, q1, q2, e5⟩ := hr1
  have hc5 := And.intro q1 q2
  have e5S1 := e5
  replace e5 := e5.st kS1
  refine RD.segM hT ht1 (by kernel_rfl) [9, 10, 11, 12, 13, 14, 15, 16, 17, 18, 19] [.slice (some ⟨b2, o1, none⟩) p0.Keys.length u2, .slice A5 x3.length u5, .string (strOfNums x3), .string (strOfNums p1)] [(15, .bool true)] [.bool true, .pointer (some ⟨b1, 2, none⟩), .slice (some ⟨b2, o1, none⟩) p0.Keys.length u2, .int .i64 x1, .pointer (some ⟨b2, o1 + x1.toNat * 1, none⟩), .slice A5 x3.length u5, .string (strOfNums x3), .slice A4 p1.length u4, .string (strOfNums p1), .bool (Op.bytesLess (strOfNums x3).toList (strOfNums p1).toList || (strOfNums x3).toList == (strOfNums p1).toList), .bool (Op.bytesLess (strOfNums x3).toList (strOfNums p1).toList || (strOfNums x3).toList == (strOfNums p1).toList)] [.veq (.bool (decide (x1 < (p0.Keys.length : Int)))) (.bool true), .cell ⟨b1, 2, none⟩ (.slice (some ⟨b2, o1, none⟩) p0.Keys.length u2), .idx x1 p0.Keys.length, .cell ⟨b2, o1 + x1.toNat * 1, none⟩ (.slice A5 x3.length u5), .bytes A5 x3.length (strOfNums x3), .bytes A4 p1.length (strOfNums p1)] (by kernel_rfl) (by rintro w' ⟨I', s, k⟩; have e4 := e4S1.st k; have e1 := e1S1.st k; have e2 := e2S1.st k; have e3 := e3S1.st k; have e5 := e5S1.st k; have ha1 := ha1.st k hb1; exact ⟨bo_t h2, s.cell (i := 0) (off := 2) rfl rfl, h3, ha1 0 _ rfl, Elems.bytes e5, Elems.bytes e4⟩) ⟨_, s.pick [0] 1 rfl, kS1⟩ ?_
  refine RD.done (by kernel_rfl) ?_
  by_cases h4 : (Op.bytesLess (strOfNums x3).toList (strOfNums p1).toList || (strOfNums x3).toList == (strOfNums p1).toList) = true
  have hf := iteT h4 hf
  refine WPK.condT (Eq.trans (b := .bool (Op.bytesLess (strOfNums x3).toList (strOfNums p1).toList || (strOfNums x3).toList == (strOfNums p1).toList)) (by kernel_rfl) (b_t h4)) ?_
  refine WPK.skip ?_
  refine WPK.block ?_
  refine WPK.region ?_
  refine RW.seg hT 3 [] [] [.int .i64 x1, .int .i64 (IntKind.i64.wrap (x1 + 1)), .int .i64 (IntKind.i64.wrap (x1 + 1))] [] (by kernel_rfl) (trivial) ?_
  refine RW.nil ?_
  subst hrec1
  exact ⟨n1, Nat.le_refl _, fun X h => kc (by kernel_rfl) rfl (h I2 (IntKind.i64.wrap (x1 + 1)) _ hf s kk e4 e1 e2 e3)⟩
  have hf := iteF h4 hf
  refine WPK.condF (Eq.trans (b := .bool (Op.bytesLess (strOfNums x3).toList (strOfNums p1).toList || (strOfNums x3).toList == (strOfNums p1).toList)) (by kernel_rfl) (b_f h4)) ?_
  refine WPK.exit (blockQ.same ?_)
  refine WPK.seq ?_
  refine WPK.region ?_
  refine RW.seg hT 2 [] [] [.int .i64 x1, .int .i64 x1] [] (by kernel_rfl) (trivial) ?_
  refine RW.nil ?_
  refine WPK.ret (?_)
  obtain rfl := someS hf
  refine Fin.of (rs := [.tmp 4]) hT [] (.int .i64 x1) [] rfl (by kernel_rfl) (trivial) ?_
  replace s := s.pick [] 1 rfl
  exact fun X h => vc rfl (h I2 _ s kk)
  have hf := iteF h2 hf
  refine RD.segM hT ht1 (by kernel_rfl) [9, 10, 11, 12, 13, 14, 15, 16, 17, 18, 19] [] [(15, .bool false)] [.bool false, undef, undef, undef, undef, undef, undef, undef, undef, undef, .bool false] [.veq (.bool (decide (x1 < (p0.Keys.length : Int)))) (.bool false)] (by kernel_rfl) (by rintro w' ⟨I', s, k⟩; have e4 := e4S1.st k; have e1 := e1S1.st k; have e2 := e2S1.st k; have e3 := e3S1.st k; exact bo_f h2) ⟨_, s.pick [0] 1 rfl, kS1⟩ ?_
  refine RD.done (by kernel_rfl) ?_
  refine WPK.condF (by kernel_rfl) ?_
  refine WPK.exit (blockQ.same ?_)
  refine WPK.seq ?_
  refine WPK.region ?_
  refine RW.seg hT 2 [] [] [.int .i64 x1, .int .i64 x1] [] (by kernel_rfl) (trivial) ?_
  refine RW.nil ?_
  refine WPK.ret (?_)
  obtain rfl := someS hf
  refine Fin.of (rs := [.tmp 4]) hT [] (.int .i64 x1) [] rfl (by kernel_rfl) (trivial) ?_
  replace s := s.pick [] 1 rfl
  exact fun X h => vc rfl (h I2 _ s kk)
  have hf := iteF h1 hf
  refine RD.segM hT ht1 (by kernel_rfl) [2, 3, 4, 5, 6, 7, 8, 9, 10, 11, 12, 13, 14, 15, 16, 17, 18, 19] [] [(8, .bool false)] [.bool false, undef, undef, undef, undef, undef, .bool false, .bool false, undef, undef, undef, undef, undef, undef, undef, undef, undef, .bool false] [.veq (.bool (x2)) (.bool false)] (by kernel_rfl) (by rintro w' ⟨I', s, k⟩; have e4 := e4S1.st k; have e1 := e1S1.st k; have e2 := e2S1.st k; have e3 := e3S1.st k; exact b_f h1) ⟨_, s.pick [0] 1 rfl, kS1⟩ ?_
  refine RD.done (by kernel_rfl) ?_
  refine WPK.condF (by kernel_rfl) ?_
  refine WPK.exit (blockQ.same ?_)
  refine WPK.seq ?_
  refine WPK.region ?_
  refine RW.seg hT 2 [] [] [.int .i64 x1, .int .i64 x1] [] (by kernel_rfl) (trivial) ?_
  refine RW.nil ?_
  refine WPK.ret (?_)
  obtain rfl := someS hf
  refine Fin.of (rs := [.tmp 4]) hT [] (.int .i64 x1) [] rfl (by kernel_rfl) (trivial) ?_
  replace s := s.pick [] 1 rfl
  exact fun X h => vc rfl (h I2 _ s kk)
theorem c95 {w1 w : World} {M I : Nat → Prop} {F : List It} (p0 : (List (List Int))) (A1 : Option Addr) (u1 : Nat) (hc1 : (p0.length ≤ u1 ∧ u1 ≤ 9223372036854775807)) (e1 : Elems (Rp.slice (Rp.int .u8)) I w A1 p0) (s : St w1 M I (F) w) {r : (List Int)} (hf : g95 p0 = some r) :
    Ret Try.prog 95 [.slice A1 p0.length u1] w fun v wz => ∀ X : Value → World → Prop, (∀ (I' : Nat → Prop) (A2 : Option Addr) (n1 : Nat) (u2 : Nat) (cl1 : List Value) (w' : World), St w1 M I' ((.sl (.slice A2 n1 u2) 5 1 n1 cl1) :: F) w' → Kp I w I' w' → n1 = r.length → RepL (Rp.int .u8) I' w' cl1 r → X (.slice A2 n1 u2) w') → X v wz := by
  have kk : Kp I w I w := Kp.refl
  unfold g95 at hf
  refine Ret.of Try.func95 rfl ?_
  refine WPK.seq ?_
  refine WPK.region ?_
  refine RW.seg hT 1 [] [] [.slice none 0 0] [] (by kernel_rfl) (trivial) ?_
  refine RW.nil ?_
  refine WPK.seq ?_
  refine WPK.region ?_
  refine RW.seg hT 1 [] [] [.int .i64 0] [] (by kernel_rfl) (trivial) ?_
  refine RW.nil ?_
  refine WPK.seq ?_
  refine WPK.seq ?_
  refine WPK.region ?_
  refine RW.seg hT 3 [] [] [.slice A1 p0.length u1, .int .i64 (p0.length : Int), .int .i64 0] [] (by kernel_rfl) (trivial) ?_
  refine RW.nil ?_
  refine WPK.block ?_
  refine WPK.loop' (J := fun n2 D1 ds wz => ∀ X : Kont, (∀ (x1 : Int) (x2 : Int), g95_l1 p0 n2 x1 x2 = some r → X [.slice A1 p0.length u1, (D1.getD 1 undef), .slice none 0 0, .int .i64 x1, (D1.getD 4 undef), (D1.getD 5 undef), undef, (D1.getD 7 undef), undef, .slice A1 p0.length u1, .int .i64 (p0.length : Int), .int .i64 x2, (D1.getD 12 undef), (D1.getD 13 undef), (D1.getD 14 undef), (D1.getD 15 undef), (D1.getD 16 undef), (D1.getD 17 undef), (D1.getD 18 undef), (D1.getD 19 undef), (D1.getD 20 undef), undef, (D1.getD 22 undef), undef, undef, undef, undef, undef, undef, undef, undef, undef, undef, undef, undef, undef] [] w) → X D1 ds wz) FUEL (fun X h => kc (by kernel_rfl) rfl (h 0 0 hf)) (fun _ _ _ hJ => hJ (fun _ _ _ => False) (by intro x1 x2 hf; exact noneS hf)) ?_
  intro X1 hX1
  refine fun n2 D1 _ _ hJ => hJ (X1 n2) ?_
  intro x1 x2 hf
  refine hX1 _ _ _ _ ?_
  replace hf : g95_l1B p0 (g95_l1 p0 n2) x1 x2 = some r := hf
  generalize hrec1 : g95_l1 p0 n2 = rec1 at hf
  unfold g95_l1B at hf
  refine WPK.seq ?_
  refine WPK.region ?_
  refine RW.seg hT 1 [] [] [.bool (decide (x2 < (p0.length : Int)))] [] (by kernel_rfl) (trivial) ?_
  refine RW.nil ?_
  refine WPK.seq ?_
  by_cases h1 : x2 < (p0.length : Int)
  have hf := iteT h1 hf
  refine WPK.condT (Eq.trans (b := .bool (decide (x2 < (p0.length : Int)))) (by kernel_rfl) (bo_t h1)) ?_
  refine WPK.skip ?_
  refine WPK.seq ?_
  refine WPK.block ?_
  refine WPK.seq ?_
  refine WPK.region ?_
  obtain ⟨x3, hx1, hf⟩ := bindS hf
  obtain ⟨h2, hx1⟩ := getS hx1
  obtain ⟨b1, o1, rfl⟩ := Elems.opn e1 hx1
  obtain ⟨cs1, hr1, ha1⟩ := Elems.get e1 hx1
  obtain ⟨A3, u3, rfl, q1, q2, e2⟩ := hr1
  have hc2 := And.intro q1 q2
  refine RW.seg hT 3 [.slice A3 x3.length u3] [] [.pointer (some ⟨b1, o1 + x2.toNat * 1, none⟩), .slice A3 x3.length u3, .slice A3 x3.length u3] [.idx x2 p0.length, .cell ⟨b1, o1 + x2.toNat * 1, none⟩ (.slice A3 x3.length u3)] (by kernel_rfl) (⟨h2, ha1 0 _ rfl⟩) ?_
  refine RW.nil ?_
  refine WPK.seq ?_
  refine WPK.region ?_
  refine RW.seg hT 5 [] [] [.int .i64 x1, .slice A3 x3.length u3, .int .i64 (x3.length : Int), .int .i64 (IntKind.i64.wrap (x1 + (x3.length : Int))), .int .i64 (IntKind.i64.wrap (x1 + (x3.length : Int)))] [] (by kernel_rfl) (trivial) ?_
  refine RW.nil ?_
  refine WPK.seq ?_
  refine WPK.region ?_
  refine RW.seg hT 2 [] [] [.int .i64 (IntKind.i64.wrap (x1 + (x3.length : Int))), .bool (decide ((IntKind.i64.wrap (x1 + (x3.length : Int))) < 0))] [] (by kernel_rfl) (trivial) ?_
  refine RW.nil ?_
  by_cases h3 : (IntKind.i64.wrap (x1 + (x3.length : Int))) < 0
  have hf := iteT h3 hf
  refine WPK.condT (Eq.trans (b := .bool (decide ((IntKind.i64.wrap (x1 + (x3.length : Int))) < 0))) (by kernel_rfl) (bo_t h3)) ?_
  refine WPK.region ?_
  exact noneS hf
  have hf := iteF h3 hf
  refine WPK.condF (Eq.trans (b := .bool (decide ((IntKind.i64.wrap (x1 + (x3.length : Int))) < 0))) (by kernel_rfl) (bo_f h3)) ?_
  refine WPK.skip ?_
  refine WPK.region ?_
  refine RW.seg hT 2 [] [] [.int .i64 (IntKind.i64.wrap (x2 + 1)), .int .i64 (IntKind.i64.wrap (x2 + 1))] [] (by kernel_rfl) (trivial) ?_
  refine RW.nil ?_
  subst hrec1
  exact ⟨n2, Nat.le_refl _, fun X h => kc (by kernel_rfl) rfl (h (IntKind.i64.wrap (x1 + (x3.length : Int))) (IntKind.i64.wrap (x2 + 1)) hf)⟩
  have hf := iteF h1 hf
  refine WPK.condF (Eq.trans (b := .bool (decide (x2 < (p0.length : Int)))) (by kernel_rfl) (bo_f h1)) ?_
  refine WPK.exit (blockQ.same ?_)
  refine WPK.seq ?_
  refine WPK.region ?_
  refine RW.seg hT 1 [] [] [.int .i64 x1] [] (by kernel_rfl) (trivial) ?_
  refine RW.op (by kernel_rfl) (OK.inl (args := [.slice none 0 0, .int .i64 x1]) en111 (by kernel_rfl) ?_)
  intro R1 hR1
  refine Ret.of Try.func111 rfl ?_
  refine WPK.seq ?_
  refine WPK.region ?_
  refine RW.seg hT 1 [] [] [.slice none 0 0] [] (by kernel_rfl) (trivial) ?_
  refine RW.nil ?_
  refine WPK.seq ?_
  refine WPK.seq ?_
  refine WPK.region ?_
  refine RW.seg hT 2 [] [] [.int .i64 x1, .bool (decide (x1 < 0))] [] (by kernel_rfl) (trivial) ?_
  refine RW.nil ?_
  by_cases h4 : x1 < 0
  have hf := iteT h4 hf
  refine WPK.condT (Eq.trans (b := .bool (decide (x1 < 0))) (by kernel_rfl) (bo_t h4)) ?_
  refine WPK.region ?_
  exact noneS hf
  have hf := iteF h4 hf
  refine WPK.condF (Eq.trans (b := .bool (decide (x1 < 0))) (by kernel_rfl) (bo_f h4)) ?_
  refine WPK.skip ?_
  refine WPK.seq ?_
  refine WPK.cut' (Kn fun D2 ds wz => ∀ X : Kont, (∀ (I1 : Nat → Prop) (x4 : (List Int)) (A4 : Option Addr) (n3 : Nat) (u4 : Nat) (cl2 : List Value) (w' : World), g95_j2 p0 x4 = some r → St w1 M I1 ((.sl (.slice A4 n3 u4) 5 1 n3 cl2) :: F) w' → Kp I w I1 w' → n3 = x4.length → RepL (Rp.int .u8) I1 w' cl2 x4 → Elems (Rp.slice (Rp.int .u8)) I1 w' A1 p0 → X [.slice A4 n3 u4, (D2.getD 1 undef), (D2.getD 2 undef), (D2.getD 3 undef), .slice none 0 0, (D2.getD 5 undef), (D2.getD 6 undef), (D2.getD 7 undef), (D2.getD 8 undef), (D2.getD 9 undef), (D2.getD 10 undef), (D2.getD 11 undef), (D2.getD 12 undef), (D2.getD 13 undef), (D2.getD 14 undef), (D2.getD 15 undef), (D2.getD 16 undef), (D2.getD 17 undef), (D2.getD 18 undef), (D2.getD 19 undef), (D2.getD 20 undef), (D2.getD 21 undef), (D2.getD 22 undef), (D2.getD 23 undef), (D2.getD 24 undef), (D2.getD 25 undef), undef] [] w') → X D2 ds wz) ?_ ?_
  intro X2 hX2
  refine fun D2 _ _ hJ => hJ X2 ?_
  clear s
  intro I1 x4 A4 n3 u4 cl2 w2 hf s kk hn1 rp1 e1
  refine hX2 _ _ _ ?_
  unfold g95_j2 at hf
  refine WPK.seq ?_
  refine WPK.region ?_
  refine RW.seg hT 2 [] [] [.slice A4 n3 u4, .slice A4 n3 u4] [] (by kernel_rfl) (trivial) ?_
  refine RW.nil ?_
  refine WPK.ret (?_)
  refine Fin.of (rs := [.tmp 4]) hT [] (.slice A4 n3 u4) [] rfl (by kernel_rfl) (trivial) ?_
  refine hR1 _ _ ?_
  refine RW.seg hT 1 [] [] [.slice A4 n3 u4] [] (by kernel_rfl) (trivial) ?_
  refine RW.nil ?_
  refine WPK.seq ?_
  refine WPK.seq ?_
  refine WPK.region ?_
  refine RW.seg hT 3 [] [] [.slice A1 p0.length u1, .int .i64 (p0.length : Int), .int .i64 0] [] (by kernel_rfl) (trivial) ?_
  refine RW.nil ?_
  refine WPK.block ?_
  refine WPK.loop' (J := fun n4 D3 ds wz => ∀ X : Kont, (∀ (I2 : Nat → Prop) (x5 : (List Int)) (x6 : Int) (A5 : Option Addr) (n5 : Nat) (u5 : Nat) (cl3 : List Value) (w' : World), g95_l3 p0 n4 x5 x6 = some r → St w1 M I2 ((.sl (.slice A5 n5 u5) 5 1 n5 cl3) :: F) w' → Kp I w I2 w' → n5 = x5.length → RepL (Rp.int .u8) I2 w' cl3 x5 → Elems (Rp.slice (Rp.int .u8)) I2 w' A1 p0 → X [(D3.getD 0 undef), (D3.getD 1 undef), .slice none 0 0, (D3.getD 3 undef), (D3.getD 4 undef), (D3.getD 5 undef), .slice A5 n5 u5, (D3.getD 7 undef), (D3.getD 8 undef), (D3.getD 9 undef), (D3.getD 10 undef), (D3.getD 11 undef), (D3.getD 12 undef), (D3.getD 13 undef), (D3.getD 14 undef), (D3.getD 15 undef), (D3.getD 16 undef), (D3.getD 17 undef), (D3.getD 18 undef), (D3.getD 19 undef), (D3.getD 20 undef), (D3.getD 21 undef), (D3.getD 22 undef), (D3.getD 23 undef), (D3.getD 24 undef), .slice A1 p0.length u1, .int .i64 (p0.length : Int), .int .i64 x6, (D3.getD 28 undef), (D3.getD 29 undef), (D3.getD 30 undef), (D3.getD 31 undef), (D3.getD 32 undef), (D3.getD 33 undef), (D3.getD 34 undef), undef] [] w') → X D3 ds wz) FUEL (fun X h => kc (by kernel_rfl) rfl (h I1 x4 0 A4 n3 u4 cl2 _ hf s kk hn1 rp1 e1)) (fun _ _ _ hJ => hJ (fun _ _ _ => False) (by intro I2 x5 x6 A5 n5 u5 cl3 w3 hf s kk hn2 rp2 e1; exact noneS hf)) ?_
  intro X3 hX3
  refine fun n4 D3 _ _ hJ => hJ (X3 n4) ?_
  clear s
  intro I2 x5 x6 A5 n5 u5 cl3 w3 hf s kk hn2 rp2 e1
  refine hX3 _ _ _ _ ?_
  replace hf : g95_l3B p0 (g95_l3 p0 n4) x5 x6 = some r := hf
  generalize hrec2 : g95_l3 p0 n4 = rec2 at hf
  unfold g95_l3B at hf
  refine WPK.seq ?_
  refine WPK.region ?_
  refine RW.seg hT 1 [] [] [.bool (decide (x6 < (p0.length : Int)))] [] (by kernel_rfl) (trivial) ?_
  refine RW.nil ?_
  refine WPK.seq ?_
  by_cases h5 : x6 < (p0.length : Int)
  have hf := iteT h5 hf
  refine WPK.condT (Eq.trans (b := .bool (decide (x6 < (p0.length : Int)))) (by kernel_rfl) (bo_t h5)) ?_
  refine WPK.skip ?_
  refine WPK.seq ?_
  refine WPK.block ?_
  refine WPK.seq ?_
  refine WPK.region ?_
  obtain ⟨x7, hx2, hf⟩ := bindS hf
  obtain ⟨h6, hx2⟩ := getS hx2
  obtain ⟨b2, o2, rfl⟩ := Elems.opn e1 hx2
  obtain ⟨cs2, hr2, ha2⟩ := Elems.get e1 hx2
  obtain ⟨A6, u6, rfl, q3, q4, e3⟩ := hr2
  have hc3 := And.intro q3 q4
  refine RW.seg hT 3 [.slice A6 x7.length u6] [] [.pointer (some ⟨b2, o2 + x6.toNat * 1, none⟩), .slice A6 x7.length u6, .slice A6 x7.length u6] [.idx x6 p0.length, .cell ⟨b2, o2 + x6.toNat * 1, none⟩ (.slice A6 x7.length u6)] (by kernel_rfl) (⟨h6, ha2 0 _ rfl⟩) ?_
  refine RW.nil ?_
  refine WPK.region ?_
  refine RW.seg hT 2 [] [] [.slice A5 n5 u5, .slice A6 x7.length u6] [] (by kernel_rfl) (trivial) ?_
  obtain ⟨nw1, hs1, rq1⟩ := Elems.src e3
  obtain ⟨x8, hx3, hf⟩ := bindS hf
  refine RW.op (by kernel_rfl) (OK.app hT (r := (Rp.int .u8)) (i := 0) (t := 27) (e := 5) (size := 1) (bytes := 1) (c := u5) (n := n5) (m := x7.length) s (by kernel_rfl) rfl rfl rfl rfl rfl (by decide) rfl rfl hn2 rfl rp2 hs1 rq1 flat_int rfl hx3 ?_)
  clear s
  rintro A7 u7 cl4 w4 s k1 rp3
  replace e3 := e3.st k1
  replace e1 := e1.st k1
  replace rp2 := rp2.st k1
  replace kk := kk.trans k1
  refine RW.seg hT 1 [] [] [.slice A7 x8.length u7] [] (by kernel_rfl) (trivial) ?_
  refine RW.nil ?_
  refine WPK.region ?_
  refine RW.seg hT 2 [] [] [.int .i64 (IntKind.i64.wrap (x6 + 1)), .int .i64 (IntKind.i64.wrap (x6 + 1))] [] (by kernel_rfl) (trivial) ?_
  refine RW.nil ?_
  subst hrec2
  exact ⟨n4, Nat.le_refl _, fun X h => kc (by kernel_rfl) rfl (h I2 x8 (IntKind.i64.wrap (x6 + 1)) A7 x8.length u7 cl4 _ hf s kk rfl rp3 e1)⟩
  have hf := iteF h5 hf
  refine WPK.condF (Eq.trans (b := .bool (decide (x6 < (p0.length : Int)))) (by kernel_rfl) (bo_f h5)) ?_
  refine WPK.exit (blockQ.same ?_)
  refine WPK.seq ?_
  refine WPK.region ?_
  refine RW.seg hT 2 [] [] [.slice A5 n5 u5, .slice A5 n5 u5] [] (by kernel_rfl) (trivial) ?_
  refine RW.nil ?_
  refine WPK.ret (?_)
  obtain rfl := someS hf
  refine Fin.of (rs := [.tmp 2]) hT [] (.slice A5 n5 u5) [] rfl (by kernel_rfl) (trivial) ?_
  exact fun X h => vc rfl (h I2 A5 n5 u5 cl3 _ s kk hn2 rp2)
  refine WPK.seq ?_
  refine WPK.region ?_
  refine RW.seg hT 2 [] [] [.int .i64 x1, .slice none 0 0] [] (by kernel_rfl) (trivial) ?_
  refine RW.op (by kernel_rfl) (OK.cap hT (t := 27) (e := 5) (A := none) (n := 0) (c := 0) (by kernel_rfl) rfl rfl ?_)
  refine RW.seg hT 5 [] [] [.slice none 0 0, .int .i64 0, .int .i64 0, .int .i64 (IntKind.i64.wrap (x1 - 0)), .int .i64 (IntKind.i64.wrap (x1 - 0))] [] (by kernel_rfl) (trivial) ?_
  refine RW.nil ?_
  refine WPK.seq ?_
  refine WPK.region ?_
  refine RW.seg hT 2 [] [] [.int .i64 (IntKind.i64.wrap (x1 - 0)), .bool (decide ((IntKind.i64.wrap (x1 - 0)) > 0))] [] (by kernel_rfl) (trivial) ?_
  refine RW.nil ?_
  by_cases h7 : (IntKind.i64.wrap (x1 - 0)) > 0
  have hf := iteT h7 hf
  refine WPK.condT (Eq.trans (b := .bool (decide ((IntKind.i64.wrap (x1 - 0)) > 0))) (by kernel_rfl) (bo_t h7)) ?_
  refine WPK.region ?_
  refine RW.seg hT 2 [] [] [.slice none 0 0, .slice none 0 0] [] (by kernel_rfl) (trivial) ?_
  refine RW.op (by kernel_rfl) (OK.cap hT (t := 27) (e := 5) (A := none) (n := 0) (c := 0) (by kernel_rfl) rfl rfl ?_)
  refine RW.seg hT 2 [] [(20, .slice none 0 0)] [.slice none 0 0, .int .i64 (IntKind.i64.wrap (x1 - 0))] [.both (.cut 0 0 0 0) (.veq (.slice none (0 : Int).toNat 0) (.slice none 0 0))] (by kernel_rfl) (⟨⟨by decide, by decide, by decide, by decide⟩, rfl⟩) ?_
  replace s := s.pushNil 5 1
  obtain ⟨x9, hx4, hf⟩ := bindS hf
  refine RW.op (by kernel_rfl) (OK.appZ hT (r := (Rp.int .u8)) (i := 0) (t := 27) (tn := 3) (e := 5) (bytes := 1) (c := 0) (n := 0) (x := 0) (kn := .i64) s (by kernel_rfl) rfl rfl rfl rfl rfl rfl rfl rfl rfl rfl rfl (RepL.nil (r := (Rp.int .u8))) flat_int (fun _ _ => rfl) hx4 ?_)
  clear s
  rintro A8 u8 cl5 w5 s k2 rp4
  replace e1 := e1.st k2
  replace kk := kk.trans k2
  refine RW.seg hT 2 [] [] [.slice none 0 0, .int .i64 0] [] (by kernel_rfl) (trivial) ?_
  obtain ⟨h8, hf⟩ := iteS hf
  have hc4 := row_hc (s.at (i := 0) rfl)
  have hb1 : (0 : Int).toNat ≤ x9.length := by have hnn := (rfl : x9.length = x9.length); omega
  refine RW.seg hT 1 [] [] [.slice A8 (0 : Int).toNat u8] [.cut 0 0 u8 u8] (by kernel_rfl) (⟨Int.le_refl _, h8.1, by omega, Int.le_refl _⟩) ?_
  obtain ⟨s', rp5, hn3⟩ := St.shrinkA s (i := 0) (h := (0 : Int).toNat) rfl rfl rfl rp4 hb1
  replace s := s'; clear s'
  refine RW.seg hT 1 [] [] [.slice A8 ((0 : Int).toNat) u8] [] (by kernel_rfl) (trivial) ?_
  refine RW.nil ?_
  exact fun X h => kc (by kernel_rfl) rfl (h I (List.take ((0 : Int).toNat) x9) A8 ((0 : Int).toNat) u8 (cl5.take ((0 : Int).toNat * 1)) _ hf s kk hn3 rp5 e1)
  have hf := iteF h7 hf
  refine WPK.condF (Eq.trans (b := .bool (decide ((IntKind.i64.wrap (x1 - 0)) > 0))) (by kernel_rfl) (bo_f h7)) ?_
  refine WPK.skip ?_
  replace s := s.pushNil 5 1
  exact fun X h => kc (by kernel_rfl) rfl (h I ([] : List Int) none 0 0 [] _ hf s kk rfl (RepL.nil (r := (Rp.int .u8))) e1)
theorem c60 {w1 w : World} {M I : Nat → Prop} {F : List It} (p0 : (List Int)) (A1 : Option Addr) (u1 : Nat) (hc1 : (p0.length ≤ u1 ∧ u1 ≤ 9223372036854775807)) (e1 : Elems (Rp.int .u8) I w A1 p0) (s : St w1 M I (F) w) {r : (List Int)} (hf : g60 p0 = some r) :
    Ret Try.prog 60 [.slice A1 p0.length u1] w fun v wz => ∀ X : Value → World → Prop, (∀ (I' : Nat → Prop) (A2 : Option Addr) (n1 : Nat) (u2 : Nat) (cl1 : List Value) (w' : World), St w1 M I' ((.sl (.slice A2 n1 u2) 5 1 n1 cl1) :: F) w' → Kp I w I' w' → n1 = r.length → RepL (Rp.int .u8) I' w' cl1 r → X (.slice A2 n1 u2) w') → X v wz := by
  have kk : Kp I w I w := Kp.refl
  unfold g60 at hf
  refine Ret.of Try.func60 rfl ?_
  refine WPK.seq ?_
  refine WPK.region ?_
  refine RW.seg hT 1 [] [] [.slice none 0 0] [] (by kernel_rfl) (trivial) ?_
  refine RW.nil ?_
  refine WPK.seq ?_
  refine WPK.region ?_
  refine RW.op (by kernel_rfl) (OK.new hT (f := fun b => .slice (some ⟨b, 0, none⟩) 0 0) (cs := []) (e := 5) (c := .tt) s (by kernel_rfl) trivial ?_)
  clear s
  rintro w2 b1 s k1 -
  replace e1 := e1.st k1
  replace kk := kk.trans k1
  have rp1 : RepL (Rp.int .u8) I w2 [] ([] : List Int) := RepL.nil
  replace s : St w1 M I ((.sl (.slice (some ⟨b1, 0, none⟩) 0 0) 5 1 0 []) :: F) w2 := s.blkSl (i := 0) (n := 0) (c := 0) (size := 1) rfl rfl (Nat.le_refl _) (by decide)
  refine RW.seg hT 1 [] [] [.slice A1 p0.length u1] [] (by kernel_rfl) (trivial) ?_
  obtain ⟨I1, s', k2, hc2, e2⟩ := St.give s (i := 0) rfl rfl rp1
  replace s := s'; clear s'
  replace e1 := e1.st k2
  replace kk := kk.trans k2
  refine RW.op (by kernel_rfl) (OK.new hT (f := fun b => .slice (some ⟨b, 0, none⟩) 2 2) (cs := [.slice (some ⟨b1, 0, none⟩) (([] : List Int).length) 0, .slice A1 p0.length u1]) (e := 27) (c := .tt) s (by kernel_rfl) trivial ?_)
  clear s
  rintro w3 b2 s k3 -
  replace e1 := e1.st k3
  replace e2 := e2.st k3
  replace kk := kk.trans k3
  have rp2 : RepL (Rp.slice (Rp.int .u8)) I1 w3 [.slice (some ⟨b1, 0, none⟩) (([] : List Int).length) 0, .slice A1 p0.length u1] ([([] : List Int), p0] : List (List Int)) := RepL.cons (c := [.slice (some ⟨b1, 0, none⟩) (([] : List Int).length) 0]) (d := [.slice A1 p0.length u1]) (⟨_, _, rfl, hc2.1, hc2.2, e2⟩) (RepL.cons (c := [.slice A1 p0.length u1]) (d := []) (⟨_, _, rfl, hc1.1, hc1.2, e1⟩) (RepL.nil))
  replace s : St w1 M I1 ((.sl (.slice (some ⟨b2, 0, none⟩) 2 2) 27 1 2 [.slice (some ⟨b1, 0, none⟩) (([] : List Int).length) 0, .slice A1 p0.length u1]) :: F) w3 := s.blkSl (i := 0) (n := 2) (c := 2) (size := 1) rfl rfl (Nat.le_refl _) (by decide)
  have sa1 := s
  obtain ⟨hc3, e3⟩ := St.lend s (i := 0) rfl rfl rp2
  have k4 := Kp.shut (I := I1) (w := w3) (p := .sl (.slice (some ⟨b2, 0, none⟩) 2 2) 27 1 2 [.slice (some ⟨b1, 0, none⟩) (([] : List Int).length) 0, .slice A1 p0.length u1])
  replace s := s.shut 0 rfl
  obtain ⟨x1, hx1, hf⟩ := bindS hf
  refine RW.op (by kernel_rfl) (OK.call' en95 (by kernel_rfl) (c95 (F := F) ([([] : List Int), p0] : List (List Int)) (some ⟨b2, 0, none⟩) 2 hc3 e3 s hx1) ?_)
  intro X1 hX1
  refine fun _ _ hJ => hJ X1 ?_
  clear s
  intro I2 A3 n2 u3 cl2 w4 s k5 hn1 rp3
  refine hX1 _ _ ?_
  have s' := St.back sa1 (i := 0) rfl s k5
  replace k5 := Kp.back sa1 (i := 0) rfl k5
  replace s := s'; clear s'
  obtain ⟨I3, s, k5⟩ : ∃ I : Nat → Prop, St w1 M I ((.sl (.slice (some ⟨b2, 0, none⟩) 2 2) 27 1 2 [.slice (some ⟨b1, 0, none⟩) (([] : List Int).length) 0, .slice A1 p0.length u1]) :: (.sl (.slice A3 n2 u3) 5 1 n2 cl2) :: F) w4 ∧ Kp _ _ I _ := ⟨_, s, k5⟩
  replace rp3 := RepL.free (I' := I3) (w' := w4) free_int rp3
  replace e1 := e1.st k5
  replace e2 := e2.st k5
  replace rp2 := rp2.st k5
  replace kk := kk.trans k5
  refine RW.seg hT 1 [] [] [.slice A3 n2 u3] [] (by kernel_rfl) (trivial) ?_
  refine RW.nil ?_
  refine WPK.ret (?_)
  obtain rfl := someS hf
  refine Fin.of (rs := [.tmp 2]) hT [] (.slice A3 n2 u3) [] rfl (by kernel_rfl) (trivial) ?_
  replace s := s.pick [1] 2 rfl
  exact fun X h => vc rfl (h I3 A3 n2 u3 cl2 _ s kk hn1 rp3)
theorem c57 {w1 w : World} {M I : Nat → Prop} {F : List It} (p0 : T_api_Pair) (A1 : Option Addr) (u1 : Nat) (A2 : Option Addr) (u2 : Nat) (hc1 : (p0.Key.length ≤ u1 ∧ u1 ≤ 9223372036854775807)) (e1 : Elems (Rp.int .u8) I w A1 p0.Key) (hc2 : (p0.Val.length ≤ u2 ∧ u2 ≤ 9223372036854775807)) (e2 : Elems (Rp.int .u8) I w A2 p0.Val) (s : St w1 M I (F) w) {r : T_api_Pair} (hf : g57 p0 = some r) :
    Ret Try.prog 57 [.agg #[.slice A1 p0.Key.length u1, .slice A2 p0.Val.length u2]] w fun v wz => ∀ X : Value → World → Prop, (∀ (I' : Nat → Prop) (A3 : Option Addr) (n1 : Nat) (u3 : Nat) (cl1 : List Value) (A4 : Option Addr) (n2 : Nat) (u4 : Nat) (cl2 : List Value) (w' : World), St w1 M I' ((.sl (.slice A3 n1 u3) 5 1 n1 cl1) :: (.sl (.slice A4 n2 u4) 5 1 n2 cl2) :: F) w' → Kp I w I' w' → n1 = r.Key.length → RepL (Rp.int .u8) I' w' cl1 r.Key → n2 = r.Val.length → RepL (Rp.int .u8) I' w' cl2 r.Val → X (.agg #[.slice A3 n1 u3, .slice A4 n2 u4]) w') → X v wz := by
  have kk : Kp I w I w := Kp.refl
  unfold g57 at hf
  refine Ret.of Try.func57 rfl ?_
  refine WPK.seq ?_
  refine WPK.region ?_
  refine RW.op (by kernel_rfl) (OK.new hT (f := fun b => .pointer (some ⟨b, 0, none⟩)) (cs := [.slice A1 p0.Key.length u1, .slice A2 p0.Val.length u2]) (e := 48) (c := .tt) s (by kernel_rfl) trivial ?_)
  clear s
  rintro w2 b1 s k1 -
  replace e1 := e1.st k1
  replace e2 := e2.st k1
  replace kk := kk.trans k1
  refine RW.op (by kernel_rfl) (OK.new hT (f := fun b => .pointer (some ⟨b, 0, none⟩)) (cs := [.slice none 0 0, .slice none 0 0]) (e := 48) (c := .tt) s (by kernel_rfl) trivial ?_)
  clear s
  rintro w3 b2 s k2 -
  replace e1 := e1.st k2
  replace e2 := e2.st k2
  replace kk := kk.trans k2
  refine RW.nil ?_
  refine WPK.seq ?_
  have e1S1 := e1
  have e2S1 := e2
  have kS1 : Kp I w3 I w3 := Kp.refl
  refine WPK.drawM (fun w' => ∃ I' : Nat → Prop, St w1 M I' ((.blk b2 (.cells #[.slice none 0 0, .slice none 0 0] 48 (0, 0))) :: (.blk b1 (.cells #[.slice A1 p0.Key.length u1, .slice A2 p0.Val.length u2] 48 (0, 0))) :: F) w' ∧ Kp I w3 I' w') 7 [0, 1, 3, 0, 8, 31, 63, 127] (by kernel_rfl) (by kernel_rfl) ?_
  intro ht1 w4 hd1
  have k3 := Kp.dr s hd1
  replace s := s.dr hd1
  replace e1 := e1.st k3
  replace e2 := e2.st k3
  replace kk := kk.trans k3
  replace kS1 := kS1.trans k3
  refine RD.segM hT ht1 (by kernel_rfl) [0, 1, 3, 4] [.slice A1 p0.Key.length u1, .slice A2 p0.Val.length u2] [] [.pointer (some ⟨b1, 0, none⟩), .slice A1 p0.Key.length u1, .pointer (some ⟨b1, 1, none⟩), .slice A2 p0.Val.length u2] [.cell ⟨b1, 0, none⟩ (.slice A1 p0.Key.length u1), .cell ⟨b1, 1, none⟩ (.slice A2 p0.Val.length u2)] (by kernel_rfl) (by rintro w' ⟨I', s, k⟩; have e1 := e1S1.st k; have e2 := e2S1.st k; exact ⟨s.cell (i := 1) (off := 0) rfl rfl, s.cell (i := 1) (off := 1) rfl rfl⟩) ⟨_, s.pick [0, 1] 2 rfl, kS1⟩ ?_
  obtain ⟨x1, hx1, hf⟩ := bindS hf
  refine RD.op (i := 2) rfl (by kernel_rfl) (by kernel_rfl) (OK.call' en60 (by kernel_rfl) (c60 (F := (.blk b2 (.cells #[.slice none 0 0, .slice none 0 0] 48 (0, 0))) :: (.blk b1 (.cells #[.slice A1 p0.Key.length u1, .slice A2 p0.Val.length u2] 48 (0, 0))) :: F) p0.Key A1 u1 hc1 e1 s hx1) ?_)
  intro X1 hX1
  refine fun _ _ hJ => hJ X1 ?_
  clear s
  intro I1 A5 n3 u5 cl3 w5 s k4 hn1 rp1
  refine hX1 _ _ ?_
  replace e1 := e1.st k4
  replace e2 := e2.st k4
  replace kk := kk.trans k4
  replace kS1 := kS1.trans k4
  refine ⟨fun _ => ⟨_, s.pick [1, 2] 3 rfl, kS1⟩, RD.fold ?_⟩
  obtain ⟨x2, hx2, hf⟩ := bindS hf
  refine RD.op (i := 5) rfl (by kernel_rfl) (by kernel_rfl) (OK.call' en60 (by kernel_rfl) (c60 (F := (.sl (.slice A5 n3 u5) 5 1 n3 cl3) :: (.blk b2 (.cells #[.slice none 0 0, .slice none 0 0] 48 (0, 0))) :: (.blk b1 (.cells #[.slice A1 p0.Key.length u1, .slice A2 p0.Val.length u2] 48 (0, 0))) :: F) p0.Val A2 u2 hc2 e2 s hx2) ?_)
  intro X2 hX2
  refine fun _ _ hJ => hJ X2 ?_
  clear s
  intro I2 A6 n4 u6 cl4 w6 s k5 hn2 rp2
  refine hX2 _ _ ?_
  replace e1 := e1.st k5
  replace e2 := e2.st k5
  replace rp1 := rp1.st k5
  replace kk := kk.trans k5
  replace kS1 := kS1.trans k5
  refine ⟨fun _ => ⟨_, s.pick [2, 3] 4 rfl, kS1⟩, RD.fold ?_⟩
  refine RD.segM hT ht1 (by kernel_rfl) [6] [] [] [.agg #[.slice A5 n3 u5, .slice A6 n4 u6]] [] (by kernel_rfl) (fun _ _ => trivial) ⟨_, s.pick [2, 3] 4 rfl, kS1⟩ ?_
  refine RD.op (i := 7) rfl (by kernel_rfl) (by kernel_rfl) (OK.store hT (i := 2) (b := b2) (off := 0) (n := 2) (vs := [.slice A5 n3 u5, .slice A6 n4 u6]) (cs := [.slice none 0 0, .slice none 0 0]) (e := 48) s (by kernel_rfl) rfl rfl (flat_ok rfl) (Nat.le_of_ble_eq_true rfl) ?_)
  clear s
  rintro w7 s k6 -
  replace e1 := e1.st k6
  replace e2 := e2.st k6
  replace rp2 := rp2.st k6
  replace rp1 := rp1.st k6
  replace kk := kk.trans k6
  replace kS1 := kS1.trans k6
  refine ⟨fun h => absurd h (by decide), RD.fold ?_⟩
  refine RD.done (by kernel_rfl) ?_
  refine WPK.ret (?_)
  obtain rfl := someS hf
  refine Fin.of (rs := [.cell 2 48]) hT [.agg #[.slice A5 n3 u5, .slice A6 n4 u6]] (.agg #[.slice A5 n3 u5, .slice A6 n4 u6]) [.cells ⟨b2, 0, none⟩ [.slice A5 n3 u5, .slice A6 n4 u6] 2] rfl (by kernel_rfl) (s.cells (i := 2) rfl rfl rfl) ?_
  replace s := s.pick [1, 0] 4 rfl
  exact fun X h => vc rfl (h I2 A5 n3 u5 cl3 A6 n4 u6 cl4 _ s kk hn1 rp1 hn2 rp2)
theorem c21 {w1 w : World} {M I : Nat → Prop} {F : List It} (p0 : (List T_api_Pair)) (A1 : Option Addr) (u1 : Nat) (hc1 : (p0.length ≤ u1 ∧ u1 ≤ 9223372036854775807)) (e1 : Elems rp_T_api_Pair I w A1 p0) (s : St w1 M I (F) w) {r : T_api_Node} (hf : g21 p0 = some r) :
    Ret Try.prog 21 [.slice A1 p0.length u1] w fun v wz => ∀ X : Value → World → Prop, (∀ (I' : Nat → Prop) (A2 : Option Addr) (u2 : Nat) (A3 : Option Addr) (n1 : Nat) (u3 : Nat) (cl1 : List Value) (A4 : Option Addr) (n2 : Nat) (u4 : Nat) (cl2 : List Value) (w' : World), St w1 M I' ((.sl (.slice A3 n1 u3) 27 1 n1 cl1) :: (.sl (.slice A4 n2 u4) 3 1 n2 cl2) :: F) w' → Kp I w I' w' → (r.Pairs.length ≤ u2 ∧ u2 ≤ 9223372036854775807) → Elems rp_T_api_Pair I' w' A2 r.Pairs → n1 = r.Keys.length → RepL (Rp.slice (Rp.int .u8)) I' w' cl1 r.Keys → n2 = r.Kids.length → RepL (Rp.int .i64) I' w' cl2 r.Kids → X (.agg #[.bool r.Leaf, .slice A2 r.Pairs.length u2, .slice A3 n1 u3, .slice A4 n2 u4]) w') → X v wz := by
  have kk : Kp I w I w := Kp.refl
  unfold g21 at hf
  refine Ret.of Try.func21 rfl ?_
  refine WPK.seq ?_
  refine WPK.region ?_
  refine RW.op (by kernel_rfl) (OK.new hT (f := fun b => .pointer (some ⟨b, 0, none⟩)) (cs := [.bool false, .slice none 0 0, .slice none 0 0, .slice none 0 0]) (e := 26) (c := .tt) s (by kernel_rfl) trivial ?_)
  clear s
  rintro w2 b1 s k1 -
  replace e1 := e1.st k1
  replace kk := kk.trans k1
  refine RW.nil ?_
  refine WPK.seq ?_
  refine WPK.region ?_
  refine RW.seg hT 2 [] [] [.slice A1 p0.length u1, .agg #[.bool true, .slice A1 p0.length u1, .slice none 0 0, .slice none 0 0]] [] (by kernel_rfl) (trivial) ?_
  refine RW.op (by kernel_rfl) (OK.store hT (i := 0) (b := b1) (off := 0) (n := 4) (vs := [.bool true, .slice A1 p0.length u1, .slice none 0 0, .slice none 0 0]) (cs := [.bool false, .slice none 0 0, .slice none 0 0, .slice none 0 0]) (e := 26) s (by kernel_rfl) rfl rfl (flat_ok rfl) (Nat.le_of_ble_eq_true rfl) ?_)
  clear s
  rintro w3 s k2 -
  replace e1 := e1.st k2
  replace kk := kk.trans k2
  refine RW.nil ?_
  refine WPK.ret (?_)
  obtain rfl := someS hf
  refine Fin.of (rs := [.cell 2 26]) hT [.agg #[.bool true, .slice A1 p0.length u1, .slice none 0 0, .slice none 0 0]] (.agg #[.bool true, .slice A1 p0.length u1, .slice none 0 0, .slice none 0 0]) [.cells ⟨b1, 0, none⟩ [.bool true, .slice A1 p0.length u1, .slice none 0 0, .slice none 0 0] 4] rfl (by kernel_rfl) (s.cells (i := 0) rfl rfl rfl) ?_
  replace s := s.pushNil 27 1
  replace s := s.pushNil 3 1
  replace s := s.pick [1, 0] 3 rfl
  exact fun X h => vc rfl (h I A1 u1 none 0 0 [] none 0 0 [] _ s kk hc1 e1 rfl (RepL.nil (r := (Rp.slice (Rp.int .u8)))) rfl (RepL.nil (r := (Rp.int .i64))))
theorem c20 {w1 w : World} {M I : Nat → Prop} {F : List It} (p0 : T_api_Node) (p1 : T_api_Node) (A1 : Option Addr) (u1 : Nat) (A2 : Option Addr) (u2 : Nat) (A3 : Option Addr) (u3 : Nat) (A4 : Option Addr) (u4 : Nat) (A5 : Option Addr) (u5 : Nat) (A6 : Option Addr) (u6 : Nat) (hc1 : (p0.Pairs.length ≤ u1 ∧ u1 ≤ 9223372036854775807)) (e1 : Elems rp_T_api_Pair I w A1 p0.Pairs) (hc2 : (p0.Keys.length ≤ u2 ∧ u2 ≤ 9223372036854775807)) (e2 : Elems (Rp.slice (Rp.int .u8)) I w A2 p0.Keys) (hc3 : (p0.Kids.length ≤ u3 ∧ u3 ≤ 9223372036854775807)) (e3 : Elems (Rp.int .i64) I w A3 p0.Kids) (hc4 : (p1.Pairs.length ≤ u4 ∧ u4 ≤ 9223372036854775807)) (e4 : Elems rp_T_api_Pair I w A4 p1.Pairs) (hc5 : (p1.Keys.length ≤ u5 ∧ u5 ≤ 9223372036854775807)) (e5 : Elems (Rp.slice (Rp.int .u8)) I w A5 p1.Keys) (hc6 : (p1.Kids.length ≤ u6 ∧ u6 ≤ 9223372036854775807)) (e6 : Elems (Rp.int .i64) I w A6 p1.Kids) (s : St w1 M I (F) w) {r : Bool} (hf : g20 p0 p1 = some r) :
    Ret Try.prog 20 [.agg #[.bool p0.Leaf, .slice A1 p0.Pairs.length u1, .slice A2 p0.Keys.length u2, .slice A3 p0.Kids.length u3], .agg #[.bool p1.Leaf, .slice A4 p1.Pairs.length u4, .slice A5 p1.Keys.length u5, .slice A6 p1.Kids.length u6]] w fun v wz => ∀ X : Value → World → Prop, (∀ (I' : Nat → Prop) (w' : World), St w1 M I' (F) w' → Kp I w I' w' → X (.bool r) w') → X v wz := by
  have kk : Kp I w I w := Kp.refl
  unfold g20 at hf
  refine Ret.of Try.func20 rfl ?_
  refine WPK.seq ?_
  refine WPK.region ?_
  refine RW.op (by kernel_rfl) (OK.new hT (f := fun b => .pointer (some ⟨b, 0, none⟩)) (cs := [.bool p0.Leaf, .slice A1 p0.Pairs.length u1, .slice A2 p0.Keys.length u2, .slice A3 p0.Kids.length u3]) (e := 26) (c := .tt) s (by kernel_rfl) trivial ?_)
  clear s
  rintro w2 b1 s k1 -
  replace e1 := e1.st k1
  replace e2 := e2.st k1
  replace e3 := e3.st k1
  replace e4 := e4.st k1
  replace e5 := e5.st k1
  replace e6 := e6.st k1
  replace kk := kk.trans k1
  refine RW.op (by kernel_rfl) (OK.new hT (f := fun b => .pointer (some ⟨b, 0, none⟩)) (cs := [.bool p1.Leaf, .slice A4 p1.Pairs.length u4, .slice A5 p1.Keys.length u5, .slice A6 p1.Kids.length u6]) (e := 26) (c := .tt) s (by kernel_rfl) trivial ?_)
  clear s
  rintro w3 b2 s k2 -
  replace e1 := e1.st k2
  replace e2 := e2.st k2
  replace e3 := e3.st k2
  replace e4 := e4.st k2
  replace e5 := e5.st k2
  replace e6 := e6.st k2
  replace kk := kk.trans k2
  refine RW.seg hT 1 [] [] [.bool false] [] (by kernel_rfl) (trivial) ?_
  refine RW.nil ?_
  refine WPK.seq ?_
  refine WPK.seq ?_
  refine WPK.cut' (Kn fun D1 ds wz => ∀ X : Kont, (∀ (x1 : Bool), g20_j1 p0 p1 x1 = some r → X [(D1.getD 0 undef), (D1.getD 1 undef), .pointer (some ⟨b1, 0, none⟩), .pointer (some ⟨b2, 0, none⟩), .bool false, undef, undef, undef, (D1.getD 8 undef), (D1.getD 9 undef), (D1.getD 10 undef), (D1.getD 11 undef), (D1.getD 12 undef), (D1.getD 13 undef), (D1.getD 14 undef), (D1.getD 15 undef), (D1.getD 16 undef), (D1.getD 17 undef), (D1.getD 18 undef), (D1.getD 19 undef), (D1.getD 20 undef), (D1.getD 21 undef), (D1.getD 22 undef), (D1.getD 23 undef), (D1.getD 24 undef), (D1.getD 25 undef), (D1.getD 26 undef), (D1.getD 27 undef), (D1.getD 28 undef), (D1.getD 29 undef), (D1.getD 30 undef), (D1.getD 31 undef), (D1.getD 32 undef), (D1.getD 33 undef), (D1.getD 34 undef), (D1.getD 35 undef), (D1.getD 36 undef), (D1.getD 37 undef), (D1.getD 38 undef), .bool x1, undef, undef, undef, undef, undef, undef, undef, undef, undef, undef, undef, undef, undef, undef, undef, undef, undef, undef, undef, undef, undef, undef, undef, undef, undef, undef, undef, undef, undef, undef, undef, undef, undef, undef, undef, undef, undef, undef, undef, undef, undef, undef, undef, undef, undef, undef, undef, undef, undef, undef, undef, undef, undef, undef, undef, undef, undef, undef, undef, undef, undef, undef, undef, undef, undef, undef, undef, undef, undef, undef, undef, undef, undef, undef, undef, undef, undef] [] w3) → X D1 ds wz) ?_ ?_
  intro X1 hX1
  refine fun D1 _ _ hJ => hJ X1 ?_
  intro x1 hf
  refine hX1 _ _ _ ?_
  unfold g20_j1 at hf
  by_cases h1 : x1 = true
  have hf := iteT h1 hf
  refine WPK.condT (Eq.trans (b := .bool x1) (by kernel_rfl) (b_t h1)) ?_
  refine WPK.seq ?_
  refine WPK.region ?_
  refine RW.seg hT 1 [] [] [.bool false] [] (by kernel_rfl) (trivial) ?_
  refine RW.nil ?_
  refine WPK.ret (?_)
  obtain rfl := someS hf
  refine Fin.of (rs := [.tmp 4]) hT [] (.bool false) [] rfl (by kernel_rfl) (trivial) ?_
  replace s := s.pick [] 2 rfl
  exact fun X h => vc rfl (h I _ s kk)
  have hf := iteF h1 hf
  refine WPK.condF (Eq.trans (b := .bool x1) (by kernel_rfl) (b_f h1)) ?_
  refine WPK.skip ?_
  refine WPK.seq ?_
  refine WPK.seq ?_
  refine WPK.region ?_
  refine RW.seg hT 1 [] [] [.int .i64 0] [] (by kernel_rfl) (trivial) ?_
  refine RW.nil ?_
  refine WPK.block ?_
  refine WPK.loop' (J := fun n1 D2 ds wz => ∀ X : Kont, (∀ (I1 : Nat → Prop) (x2 : Int) (w' : World), g20_l2 p0 p1 n1 x2 = some r → St w1 M I1 ((.blk b2 (.cells #[.bool p1.Leaf, .slice A4 p1.Pairs.length u4, .slice A5 p1.Keys.length u5, .slice A6 p1.Kids.length u6] 26 (0, 0))) :: (.blk b1 (.cells #[.bool p0.Leaf, .slice A1 p0.Pairs.length u1, .slice A2 p0.Keys.length u2, .slice A3 p0.Kids.length u3] 26 (0, 0))) :: F) w' → Kp I w I1 w' → Elems rp_T_api_Pair I1 w' A4 p1.Pairs → Elems (Rp.slice (Rp.int .u8)) I1 w' A5 p1.Keys → Elems (Rp.int .i64) I1 w' A6 p1.Kids → Elems rp_T_api_Pair I1 w' A1 p0.Pairs → Elems (Rp.slice (Rp.int .u8)) I1 w' A2 p0.Keys → Elems (Rp.int .i64) I1 w' A3 p0.Kids → X [(D2.getD 0 undef), (D2.getD 1 undef), .pointer (some ⟨b1, 0, none⟩), .pointer (some ⟨b2, 0, none⟩), .bool false, .int .i64 x2, undef, undef, (D2.getD 8 undef), (D2.getD 9 undef), (D2.getD 10 undef), (D2.getD 11 undef), (D2.getD 12 undef), (D2.getD 13 undef), (D2.getD 14 undef), (D2.getD 15 undef), (D2.getD 16 undef), (D2.getD 17 undef), (D2.getD 18 undef), (D2.getD 19 undef), (D2.getD 20 undef), (D2.getD 21 undef), (D2.getD 22 undef), (D2.getD 23 undef), (D2.getD 24 undef), (D2.getD 25 undef), (D2.getD 26 undef), (D2.getD 27 undef), (D2.getD 28 undef), (D2.getD 29 undef), (D2.getD 30 undef), (D2.getD 31 undef), (D2.getD 32 undef), (D2.getD 33 undef), (D2.getD 34 undef), (D2.getD 35 undef), (D2.getD 36 undef), (D2.getD 37 undef), (D2.getD 38 undef), (D2.getD 39 undef), (D2.getD 40 undef), (D2.getD 41 undef), (D2.getD 42 undef), (D2.getD 43 undef), (D2.getD 44 undef), (D2.getD 45 undef), (D2.getD 46 undef), (D2.getD 47 undef), (D2.getD 48 undef), (D2.getD 49 undef), (D2.getD 50 undef), (D2.getD 51 undef), (D2.getD 52 undef), (D2.getD 53 undef), (D2.getD 54 undef), (D2.getD 55 undef), (D2.getD 56 undef), (D2.getD 57 undef), (D2.getD 58 undef), (D2.getD 59 undef), (D2.getD 60 undef), (D2.getD 61 undef), (D2.getD 62 undef), (D2.getD 63 undef), (D2.getD 64 undef), (D2.getD 65 undef), (D2.getD 66 undef), (D2.getD 67 undef), (D2.getD 68 undef), (D2.getD 69 undef), (D2.getD 70 undef), (D2.getD 71 undef), (D2.getD 72 undef), (D2.getD 73 undef), (D2.getD 74 undef), (D2.getD 75 undef), (D2.getD 76 undef), (D2.getD 77 undef), (D2.getD 78 undef), undef, undef, undef, undef, undef, undef, undef, undef, undef, undef, undef, undef, undef, undef, undef, undef, undef, undef, undef, undef, undef, undef, undef, undef, undef, undef, undef, undef, undef, undef, undef, undef, undef, undef, undef, undef, undef, undef] [] w') → X D2 ds wz) FUEL (fun X h => kc (by kernel_rfl) rfl (h I 0 _ hf s kk e4 e5 e6 e1 e2 e3)) (fun _ _ _ hJ => hJ (fun _ _ _ => False) (by intro I1 x2 w4 hf s kk e4 e5 e6 e1 e2 e3; exact noneS hf)) ?_
  intro X2 hX2
  refine fun n1 D2 _ _ hJ => hJ (X2 n1) ?_
  clear s
  intro I1 x2 w4 hf s kk e4 e5 e6 e1 e2 e3
  refine hX2 _ _ _ _ ?_
  replace hf : g20_l2B p0 p1 (g20_l2 p0 p1 n1) x2 = some r := hf
  generalize hrec1 : g20_l2 p0 p1 n1 = rec1 at hf
  unfold g20_l2B at hf
  refine WPK.seq ?_
  refine WPK.seq ?_
  refine WPK.region ?_
  refine RW.seg hT 5 [.slice A1 p0.Pairs.length u1] [] [.int .i64 x2, .pointer (some ⟨b1, 1, none⟩), .slice A1 p0.Pairs.length u1, .int .i64 (p0.Pairs.length : Int), .bool (decide (x2 < (p0.Pairs.length : Int)))] [.cell ⟨b1, 1, none⟩ (.slice A1 p0.Pairs.length u1)] (by kernel_rfl) (s.cell (i := 1) (off := 1) rfl rfl) ?_
  refine RW.nil ?_
  by_cases h2 : x2 < (p0.Pairs.length : Int)
  have hf := iteT h2 hf
  refine WPK.condT (Eq.trans (b := .bool (decide (x2 < (p0.Pairs.length : Int)))) (by kernel_rfl) (bo_t h2)) ?_
  refine WPK.skip ?_
  refine WPK.seq ?_
  refine WPK.block ?_
  refine WPK.seq ?_
  have e1S1 := e1
  have e4S1 := e4
  have e5S1 := e5
  have e6S1 := e6
  have e2S1 := e2
  have e3S1 := e3
  have kS1 : Kp I1 w4 I1 w4 := Kp.refl
  refine WPK.drawM (fun w' => ∃ I' : Nat → Prop, St w1 M I' ((.blk b2 (.cells #[.bool p1.Leaf, .slice A4 p1.Pairs.length u4, .slice A5 p1.Keys.length u5, .slice A6 p1.Kids.length u6] 26 (0, 0))) :: (.blk b1 (.cells #[.bool p0.Leaf, .slice A1 p0.Pairs.length u1, .slice A2 p0.Keys.length u2, .slice A3 p0.Kids.length u3] 26 (0, 0))) :: F) w' ∧ Kp I1 w4 I' w') 32 [0, 1, 0, 7, 15, 31, 63, 0, 128, 0, 896, 1920, 3968, 8064, 16383, 32767, 65535, 131071, 65535, 524287, 1048575, 2097151, 4194303, 65535, 8454143, 65535, 58785791, 125894655, 260112383, 528547839, 1073741823, 2147483647] (by kernel_rfl) (by kernel_rfl) ?_
  intro ht1 w5 hd1
  have k3 := Kp.dr s hd1
  replace s := s.dr hd1
  replace e1 := e1.st k3
  replace e4 := e4.st k3
  replace e5 := e5.st k3
  replace e6 := e6.st k3
  replace e2 := e2.st k3
  replace e3 := e3.st k3
  replace kk := kk.trans k3
  replace kS1 := kS1.trans k3
  obtain ⟨x3, hx1, hf⟩ := bindS hf
  obtain ⟨h3, hx1⟩ := getS hx1
  obtain ⟨b3, o1, rfl⟩ := Elems.opn e1 hx1
  obtain ⟨cs1, hr1, ha1, hb1⟩ := Elems.getI e1S1 hx1
  obtain ⟨cs2, cs3, rfl, hr2, hr3⟩ := hr1
  obtain ⟨A7, u7, rfl, q1, q2, e7⟩ := hr2
  have hc7 := And.intro q1 q2
  obtain ⟨A8, u8, rfl, q3, q4, e8⟩ := hr3
  have hc8 := And.intro q3 q4
  have e7S1 := e7
  replace e7 := e7.st kS1
  have e8S1 := e8
  replace e8 := e8.st kS1
  obtain ⟨x4, hx2, hf⟩ := bindS hf
  obtain ⟨h4, hx2⟩ := getS hx2
  obtain ⟨b4, o2, rfl⟩ := Elems.opn e4 hx2
  obtain ⟨cs4, hr4, ha2, hb2⟩ := Elems.getI e4S1 hx2
  obtain ⟨cs5, cs6, rfl, hr5, hr6⟩ := hr4
  obtain ⟨A9, u9, rfl, q5, q6, e9⟩ := hr5
  have hc9 := And.intro q5 q6
  obtain ⟨A10, u10, rfl, q7, q8, e10⟩ := hr6
  have hc10 := And.intro q7 q8
  have e9S1 := e9
  replace e9 := e9.st kS1
  have e10S1 := e10
  replace e10 := e10.st kS1
  refine RD.segM hT ht1 (by kernel_rfl) [0, 1, 2, 3, 4, 5, 6, 7, 8, 9, 10, 11, 12, 13, 14] [.slice (some ⟨b3, o1, none⟩) p0.Pairs.length u1, .slice A7 x3.Key.length u7, .string (strOfNums x3.Key), .slice (some ⟨b4, o2, none⟩) p1.Pairs.length u4, .slice A9 x4.Key.length u9, .string (strOfNums x4.Key)] [(61, .bool (decide ((strOfNums x3.Key).toList ≠ (strOfNums x4.Key).toList)))] [.pointer (some ⟨b1, 1, none⟩), .slice (some ⟨b3, o1, none⟩) p0.Pairs.length u1, .int .i64 x2, .pointer (some ⟨b3, o1 + x2.toNat * 2, none⟩), .pointer (some ⟨b3, o1 + x2.toNat * 2, none⟩), .slice A7 x3.Key.length u7, .string (strOfNums x3.Key), .pointer (some ⟨b2, 1, none⟩), .slice (some ⟨b4, o2, none⟩) p1.Pairs.length u4, .int .i64 x2, .pointer (some ⟨b4, o2 + x2.toNat * 2, none⟩), .pointer (some ⟨b4, o2 + x2.toNat * 2, none⟩), .slice A9 x4.Key.length u9, .string (strOfNums x4.Key), .bool (decide ((strOfNums x3.Key).toList ≠ (strOfNums x4.Key).toList))] [.cell ⟨b1, 1, none⟩ (.slice (some ⟨b3, o1, none⟩) p0.Pairs.length u1), .idx x2 p0.Pairs.length, .cell ⟨b3, o1 + x2.toNat * 2, none⟩ (.slice A7 x3.Key.length u7), .bytes A7 x3.Key.length (strOfNums x3.Key), .cell ⟨b2, 1, none⟩ (.slice (some ⟨b4, o2, none⟩) p1.Pairs.length u4), .idx x2 p1.Pairs.length, .cell ⟨b4, o2 + x2.toNat * 2, none⟩ (.slice A9 x4.Key.length u9), .bytes A9 x4.Key.length (strOfNums x4.Key), .veq (.bool (!((strOfNums x3.Key).toList == (strOfNums x4.Key).toList))) (.bool (decide ((strOfNums x3.Key).toList ≠ (strOfNums x4.Key).toList)))] (by kernel_rfl) (by rintro w' ⟨I', s, k⟩; have e1 := e1S1.st k; have e4 := e4S1.st k; have e5 := e5S1.st k; have e6 := e6S1.st k; have e2 := e2S1.st k; have e3 := e3S1.st k; have e7 := e7S1.st k; have e8 := e8S1.st k; have e9 := e9S1.st k; have e10 := e10S1.st k; have ha1 := ha1.st k hb1; have ha2 := ha2.st k hb2; exact ⟨s.cell (i := 1) (off := 1) rfl rfl, h3, ha1 0 _ rfl, Elems.bytes e7, s.cell (i := 0) (off := 1) rfl rfl, h4, ha2 0 _ rfl, Elems.bytes e9, bne_v⟩) ⟨_, s.pick [0, 1] 2 rfl, kS1⟩ ?_
  by_cases h5 : (strOfNums x3.Key).toList ≠ (strOfNums x4.Key).toList
  have hf := iteT h5 hf
  refine RD.segM hT ht1 (by kernel_rfl) [15, 16, 17, 18, 19, 20, 21, 22, 23, 24, 25, 26, 27, 28, 29, 30, 31] [] [(62, .bool true)] [.bool true, undef, undef, undef, undef, undef, undef, undef, undef, undef, undef, undef, undef, undef, undef, undef, .bool true] [.veq (.bool (decide ((strOfNums x3.Key).toList ≠ (strOfNums x4.Key).toList))) (.bool true)] (by kernel_rfl) (by rintro w' ⟨I', s, k⟩; have e1 := e1S1.st k; have e4 := e4S1.st k; have e5 := e5S1.st k; have e6 := e6S1.st k; have e2 := e2S1.st k; have e3 := e3S1.st k; have e7 := e7S1.st k; have e8 := e8S1.st k; have e9 := e9S1.st k; have e10 := e10S1.st k; exact bo_t h5) ⟨_, s.pick [0, 1] 2 rfl, kS1⟩ ?_
  refine RD.done (by kernel_rfl) ?_
  refine WPK.condT (by kernel_rfl) ?_
  refine WPK.seq ?_
  refine WPK.region ?_
  refine RW.seg hT 1 [] [] [.bool false] [] (by kernel_rfl) (trivial) ?_
  refine RW.nil ?_
  refine WPK.ret (blockQ.ret (blockQ.ret (?_)))
  obtain rfl := someS hf
  refine Fin.of (rs := [.tmp 4]) hT [] (.bool false) [] rfl (by kernel_rfl) (trivial) ?_
  replace s := s.pick [] 2 rfl
  exact fun X h => vc rfl (h I1 _ s kk)
  have hf := iteF h5 hf
  obtain ⟨x5, hx3, hf⟩ := bindS hf
  obtain ⟨h6, hx3⟩ := getS hx3
  obtain ⟨cs7, hr7, ha3, hb3⟩ := Elems.getI e1S1 hx3
  obtain ⟨cs8, cs9, rfl, hr8, hr9⟩ := hr7
  obtain ⟨A11, u11, rfl, q9, q10, e11⟩ := hr8
  have hc11 := And.intro q9 q10
  obtain ⟨A12, u12, rfl, q11, q12, e12⟩ := hr9
  have hc12 := And.intro q11 q12
  have e11S1 := e11
  replace e11 := e11.st kS1
  have e12S1 := e12
  replace e12 := e12.st kS1
  obtain ⟨x6, hx4, hf⟩ := bindS hf
  obtain ⟨h7, hx4⟩ := getS hx4
  obtain ⟨cs10, hr10, ha4, hb4⟩ := Elems.getI e4S1 hx4
  obtain ⟨cs11, cs12, rfl, hr11, hr12⟩ := hr10
  obtain ⟨A13, u13, rfl, q13, q14, e13⟩ := hr11
  have hc13 := And.intro q13 q14
  obtain ⟨A14, u14, rfl, q15, q16, e14⟩ := hr12
  have hc14 := And.intro q15 q16
  have e13S1 := e13
  replace e13 := e13.st kS1
  have e14S1 := e14
  replace e14 := e14.st kS1
  refine RD.segM hT ht1 (by kernel_rfl) [15, 16, 17, 18, 19, 20, 21, 22, 23, 24, 25, 26, 27, 28, 29, 30, 31] [.slice (some ⟨b3, o1, none⟩) p0.Pairs.length u1, .slice A12 x5.Val.length u12, .string (strOfNums x5.Val), .slice (some ⟨b4, o2, none⟩) p1.Pairs.length u4, .slice A14 x6.Val.length u14, .string (strOfNums x6.Val)] [(62, .bool false), (77, .bool (decide ((strOfNums x5.Val).toList ≠ (strOfNums x6.Val).toList)))] [.bool false, .pointer (some ⟨b1, 1, none⟩), .slice (some ⟨b3, o1, none⟩) p0.Pairs.length u1, .int .i64 x2, .pointer (some ⟨b3, o1 + x2.toNat * 2, none⟩), .pointer (some ⟨b3, o1 + x2.toNat * 2 + 1, none⟩), .slice A12 x5.Val.length u12, .string (strOfNums x5.Val), .pointer (some ⟨b2, 1, none⟩), .slice (some ⟨b4, o2, none⟩) p1.Pairs.length u4, .int .i64 x2, .pointer (some ⟨b4, o2 + x2.toNat * 2, none⟩), .pointer (some ⟨b4, o2 + x2.toNat * 2 + 1, none⟩), .slice A14 x6.Val.length u14, .string (strOfNums x6.Val), .bool (decide ((strOfNums x5.Val).toList ≠ (strOfNums x6.Val).toList)), .bool (decide ((strOfNums x5.Val).toList ≠ (strOfNums x6.Val).toList))] [.veq (.bool (decide ((strOfNums x3.Key).toList ≠ (strOfNums x4.Key).toList))) (.bool false), .cell ⟨b1, 1, none⟩ (.slice (some ⟨b3, o1, none⟩) p0.Pairs.length u1), .idx x2 p0.Pairs.length, .cell ⟨b3, o1 + x2.toNat * 2 + 1, none⟩ (.slice A12 x5.Val.length u12), .bytes A12 x5.Val.length (strOfNums x5.Val), .cell ⟨b2, 1, none⟩ (.slice (some ⟨b4, o2, none⟩) p1.Pairs.length u4), .idx x2 p1.Pairs.length, .cell ⟨b4, o2 + x2.toNat * 2 + 1, none⟩ (.slice A14 x6.Val.length u14), .bytes A14 x6.Val.length (strOfNums x6.Val), .veq (.bool (!((strOfNums x5.Val).toList == (strOfNums x6.Val).toList))) (.bool (decide ((strOfNums x5.Val).toList ≠ (strOfNums x6.Val).toList)))] (by kernel_rfl) (by rintro w' ⟨I', s, k⟩; have e1 := e1S1.st k; have e4 := e4S1.st k; have e5 := e5S1.st k; have e6 := e6S1.st k; have e2 := e2S1.st k; have e3 := e3S1.st k; have e7 := e7S1.st k; have e8 := e8S1.st k; have e9 := e9S1.st k; have e10 := e10S1.st k; have e11 := e11S1.st k; have e12 := e12S1.st k; have e13 := e13S1.st k; have e14 := e14S1.st k; have ha3 := ha3.st k hb3; have ha4 := ha4.st k hb4; exact ⟨bo_f h5, s.cell (i := 1) (off := 1) rfl rfl, h6, ha3 1 _ rfl, Elems.bytes e12, s.cell (i := 0) (off := 1) rfl rfl, h7, ha4 1 _ rfl, Elems.bytes e14, bne_v⟩) ⟨_, s.pick [0, 1] 2 rfl, kS1⟩ ?_
  refine RD.done (by kernel_rfl) ?_
  by_cases h8 : (strOfNums x5.Val).toList ≠ (strOfNums x6.Val).toList
  have hf := iteT h8 hf
  refine WPK.condT (Eq.trans (b := .bool (decide ((strOfNums x5.Val).toList ≠ (strOfNums x6.Val).toList))) (by kernel_rfl) (bo_t h8)) ?_
  refine WPK.seq ?_
  refine WPK.region ?_
  refine RW.seg hT 1 [] [] [.bool false] [] (by kernel_rfl) (trivial) ?_
  refine RW.nil ?_
  refine WPK.ret (blockQ.ret (blockQ.ret (?_)))
  obtain rfl := someS hf
  refine Fin.of (rs := [.tmp 4]) hT [] (.bool false) [] rfl (by kernel_rfl) (trivial) ?_
  replace s := s.pick [] 2 rfl
  exact fun X h => vc rfl (h I1 _ s kk)
  have hf := iteF h8 hf
  refine WPK.condF (Eq.trans (b := .bool (decide ((strOfNums x5.Val).toList ≠ (strOfNums x6.Val).toList))) (by kernel_rfl) (bo_f h8)) ?_
  refine WPK.skip ?_
  refine WPK.region ?_
  refine RW.seg hT 3 [] [] [.int .i64 x2, .int .i64 (IntKind.i64.wrap (x2 + 1)), .int .i64 (IntKind.i64.wrap (x2 + 1))] [] (by kernel_rfl) (trivial) ?_
  refine RW.nil ?_
  subst hrec1
  exact ⟨n1, Nat.le_refl _, fun X h => kc (by kernel_rfl) rfl (h I1 (IntKind.i64.wrap (x2 + 1)) _ hf s kk e4 e5 e6 e1 e2 e3)⟩
  have hf := iteF h2 hf
  refine WPK.condF (Eq.trans (b := .bool (decide (x2 < (p0.Pairs.length : Int)))) (by kernel_rfl) (bo_f h2)) ?_
  refine WPK.exit (blockQ.same ?_)
  refine WPK.seq ?_
  refine WPK.seq ?_
  refine WPK.region ?_
  refine RW.seg hT 1 [] [] [.int .i64 0] [] (by kernel_rfl) (trivial) ?_
  refine RW.nil ?_
  refine WPK.block ?_
  refine WPK.loop' (J := fun n2 D3 ds wz => ∀ X : Kont, (∀ (I2 : Nat → Prop) (x7 : Int) (w' : World), g20_l3 p0 p1 n2 x7 = some r → St w1 M I2 ((.blk b2 (.cells #[.bool p1.Leaf, .slice A4 p1.Pairs.length u4, .slice A5 p1.Keys.length u5, .slice A6 p1.Kids.length u6] 26 (0, 0))) :: (.blk b1 (.cells #[.bool p0.Leaf, .slice A1 p0.Pairs.length u1, .slice A2 p0.Keys.length u2, .slice A3 p0.Kids.length u3] 26 (0, 0))) :: F) w' → Kp I w I2 w' → Elems rp_T_api_Pair I2 w' A4 p1.Pairs → Elems (Rp.slice (Rp.int .u8)) I2 w' A5 p1.Keys → Elems (Rp.int .i64) I2 w' A6 p1.Kids → Elems rp_T_api_Pair I2 w' A1 p0.Pairs → Elems (Rp.slice (Rp.int .u8)) I2 w' A2 p0.Keys → Elems (Rp.int .i64) I2 w' A3 p0.Kids → X [(D3.getD 0 undef), (D3.getD 1 undef), .pointer (some ⟨b1, 0, none⟩), .pointer (some ⟨b2, 0, none⟩), .bool false, (D3.getD 5 undef), .int .i64 x7, undef, (D3.getD 8 undef), (D3.getD 9 undef), (D3.getD 10 undef), (D3.getD 11 undef), (D3.getD 12 undef), (D3.getD 13 undef), (D3.getD 14 undef), (D3.getD 15 undef), (D3.getD 16 undef), (D3.getD 17 undef), (D3.getD 18 undef), (D3.getD 19 undef), (D3.getD 20 undef), (D3.getD 21 undef), (D3.getD 22 undef), (D3.getD 23 undef), (D3.getD 24 undef), (D3.getD 25 undef), (D3.getD 26 undef), (D3.getD 27 undef), (D3.getD 28 undef), (D3.getD 29 undef), (D3.getD 30 undef), (D3.getD 31 undef), (D3.getD 32 undef), (D3.getD 33 undef), (D3.getD 34 undef), (D3.getD 35 undef), (D3.getD 36 undef), (D3.getD 37 undef), (D3.getD 38 undef), (D3.getD 39 undef), (D3.getD 40 undef), (D3.getD 41 undef), (D3.getD 42 undef), (D3.getD 43 undef), (D3.getD 44 undef), (D3.getD 45 undef), (D3.getD 46 undef), (D3.getD 47 undef), (D3.getD 48 undef), (D3.getD 49 undef), (D3.getD 50 undef), (D3.getD 51 undef), (D3.getD 52 undef), (D3.getD 53 undef), (D3.getD 54 undef), (D3.getD 55 undef), (D3.getD 56 undef), (D3.getD 57 undef), (D3.getD 58 undef), (D3.getD 59 undef), (D3.getD 60 undef), (D3.getD 61 undef), (D3.getD 62 undef), (D3.getD 63 undef), (D3.getD 64 undef), (D3.getD 65 undef), (D3.getD 66 undef), (D3.getD 67 undef), (D3.getD 68 undef), (D3.getD 69 undef), (D3.getD 70 undef), (D3.getD 71 undef), (D3.getD 72 undef), (D3.getD 73 undef), (D3.getD 74 undef), (D3.getD 75 undef), (D3.getD 76 undef), (D3.getD 77 undef), (D3.getD 78 undef), (D3.getD 79 undef), (D3.getD 80 undef), (D3.getD 81 undef), (D3.getD 82 undef), (D3.getD 83 undef), (D3.getD 84 undef), (D3.getD 85 undef), (D3.getD 86 undef), (D3.getD 87 undef), (D3.getD 88 undef), (D3.getD 89 undef), (D3.getD 90 undef), (D3.getD 91 undef), (D3.getD 92 undef), (D3.getD 93 undef), (D3.getD 94 undef), (D3.getD 95 undef), (D3.getD 96 undef), (D3.getD 97 undef), (D3.getD 98 undef), undef, undef, undef, undef, undef, undef, undef, undef, undef, undef, undef, undef, undef, undef, undef, undef, undef, undef] [] w') → X D3 ds wz) FUEL (fun X h => kc (by kernel_rfl) rfl (h I1 0 _ hf s kk e4 e5 e6 e1 e2 e3)) (fun _ _ _ hJ => hJ (fun _ _ _ => False) (by intro I2 x7 w6 hf s kk e4 e5 e6 e1 e2 e3; exact noneS hf)) ?_
  intro X3 hX3
  refine fun n2 D3 _ _ hJ => hJ (X3 n2) ?_
  clear s
  intro I2 x7 w6 hf s kk e4 e5 e6 e1 e2 e3
  refine hX3 _ _ _ _ ?_
  replace hf : g20_l3B p0 p1 (g20_l3 p0 p1 n2) x7 = some r := hf
  generalize hrec2 : g20_l3 p0 p1 n2 = rec2 at hf
  unfold g20_l3B at hf
  refine WPK.seq ?_
  refine WPK.seq ?_
  refine WPK.region ?_
  refine RW.seg hT 5 [.slice A2 p0.Keys.length u2] [] [.int .i64 x7, .pointer (some ⟨b1, 2, none⟩), .slice A2 p0.Keys.length u2, .int .i64 (p0.Keys.length : Int), .bool (decide (x7 < (p0.Keys.length : Int)))] [.cell ⟨b1, 2, none⟩ (.slice A2 p0.Keys.length u2)] (by kernel_rfl) (s.cell (i := 1) (off := 2) rfl rfl) ?_
  refine RW.nil ?_
  by_cases h9 : x7 < (p0.Keys.length : Int)
  have hf := iteT h9 hf
  refine WPK.condT (Eq.trans (b := .bool (decide (x7 < (p0.Keys.length : Int)))) (by kernel_rfl) (bo_t h9)) ?_
  refine WPK.skip ?_
  refine WPK.seq ?_
  refine WPK.block ?_
  refine WPK.seq ?_
  have e2S2 := e2
  have e4S2 := e4
  have e5S2 := e5
  have e6S2 := e6
  have e1S2 := e1
  have e3S2 := e3
  have kS2 : Kp I2 w6 I2 w6 := Kp.refl
  refine WPK.drawM (fun w' => ∃ I' : Nat → Prop, St w1 M I' ((.blk b2 (.cells #[.bool p1.Leaf, .slice A4 p1.Pairs.length u4, .slice A5 p1.Keys.length u5, .slice A6 p1.Kids.length u6] 26 (0, 0))) :: (.blk b1 (.cells #[.bool p0.Leaf, .slice A1 p0.Pairs.length u1, .slice A2 p0.Keys.length u2, .slice A3 p0.Kids.length u3] 26 (0, 0))) :: F) w' ∧ Kp I2 w6 I' w') 13 [0, 1, 0, 7, 15, 31, 0, 64, 0, 448, 960, 1984, 4095] (by kernel_rfl) (by kernel_rfl) ?_
  intro ht2 w7 hd2
  have k4 := Kp.dr s hd2
  replace s := s.dr hd2
  replace e2 := e2.st k4
  replace e4 := e4.st k4
  replace e5 := e5.st k4
  replace e6 := e6.st k4
  replace e1 := e1.st k4
  replace e3 := e3.st k4
  replace kk := kk.trans k4
  replace kS2 := kS2.trans k4
  obtain ⟨x8, hx5, hf⟩ := bindS hf
  obtain ⟨h10, hx5⟩ := getS hx5
  obtain ⟨b5, o3, rfl⟩ := Elems.opn e2 hx5
  obtain ⟨cs13, hr13, ha5, hb5⟩ := Elems.getI e2S2 hx5
  obtain ⟨A15, u15, rfl, q17, q18, e15⟩ := hr13
  have hc15 := And.intro q17 q18
  have e15S2 := e15
  replace e15 := e15.st kS2
  obtain ⟨x9, hx6, hf⟩ := bindS hf
  obtain ⟨h11, hx6⟩ := getS hx6
  obtain ⟨b6, o4, rfl⟩ := Elems.opn e5 hx6
  obtain ⟨cs14, hr14, ha6, hb6⟩ := Elems.getI e5S2 hx6
  obtain ⟨A16, u16, rfl, q19, q20, e16⟩ := hr14
  have hc16 := And.intro q19 q20
  have e16S2 := e16
  replace e16 := e16.st kS2
  refine RD.segM hT ht2 (by kernel_rfl) [0, 1, 2, 3, 4, 5, 6, 7, 8, 9, 10, 11, 12] [.slice (some ⟨b5, o3, none⟩) p0.Keys.length u2, .slice A15 x8.length u15, .string (strOfNums x8), .slice (some ⟨b6, o4, none⟩) p1.Keys.length u5, .slice A16 x9.length u16, .string (strOfNums x9)] [(98, .bool (decide ((strOfNums x8).toList ≠ (strOfNums x9).toList)))] [.pointer (some ⟨b1, 2, none⟩), .slice (some ⟨b5, o3, none⟩) p0.Keys.length u2, .int .i64 x7, .pointer (some ⟨b5, o3 + x7.toNat * 1, none⟩), .slice A15 x8.length u15, .string (strOfNums x8), .pointer (some ⟨b2, 2, none⟩), .slice (some ⟨b6, o4, none⟩) p1.Keys.length u5, .int .i64 x7, .pointer (some ⟨b6, o4 + x7.toNat * 1, none⟩), .slice A16 x9.length u16, .string (strOfNums x9), .bool (decide ((strOfNums x8).toList ≠ (strOfNums x9).toList))] [.cell ⟨b1, 2, none⟩ (.slice (some ⟨b5, o3, none⟩) p0.Keys.length u2), .idx x7 p0.Keys.length, .cell ⟨b5, o3 + x7.toNat * 1, none⟩ (.slice A15 x8.length u15), .bytes A15 x8.length (strOfNums x8), .cell ⟨b2, 2, none⟩ (.slice (some ⟨b6, o4, none⟩) p1.Keys.length u5), .idx x7 p1.Keys.length, .cell ⟨b6, o4 + x7.toNat * 1, none⟩ (.slice A16 x9.length u16), .bytes A16 x9.length (strOfNums x9), .veq (.bool (!((strOfNums x8).toList == (strOfNums x9).toList))) (.bool (decide ((strOfNums x8).toList ≠ (strOfNums x9).toList)))] (by kernel_rfl) (by rintro w' ⟨I', s, k⟩; have e2 := e2S2.st k; have e4 := e4S2.st k; have e5 := e5S2.st k; have e6 := e6S2.st k; have e1 := e1S2.st k; have e3 := e3S2.st k; have e15 := e15S2.st k; have e16 := e16S2.st k; have ha5 := ha5.st k hb5; have ha6 := ha6.st k hb6; exact ⟨s.cell (i := 1) (off := 2) rfl rfl, h10, ha5 0 _ rfl, Elems.bytes e15, s.cell (i := 0) (off := 2) rfl rfl, h11, ha6 0 _ rfl, Elems.bytes e16, bne_v⟩) ⟨_, s.pick [0, 1] 2 rfl, kS2⟩ ?_
  refine RD.done (by kernel_rfl) ?_
  by_cases h12 : (strOfNums x8).toList ≠ (strOfNums x9).toList
  have hf := iteT h12 hf
  refine WPK.condT (Eq.trans (b := .bool (decide ((strOfNums x8).toList ≠ (strOfNums x9).toList))) (by kernel_rfl) (bo_t h12)) ?_
  refine WPK.seq ?_
  refine WPK.region ?_
  refine RW.seg hT 1 [] [] [.bool false] [] (by kernel_rfl) (trivial) ?_
  refine RW.nil ?_
  refine WPK.ret (blockQ.ret (blockQ.ret (?_)))
  obtain rfl := someS hf
  refine Fin.of (rs := [.tmp 4]) hT [] (.bool false) [] rfl (by kernel_rfl) (trivial) ?_
  replace s := s.pick [] 2 rfl
  exact fun X h => vc rfl (h I2 _ s kk)
  have hf := iteF h12 hf
  refine WPK.condF (Eq.trans (b := .bool (decide ((strOfNums x8).toList ≠ (strOfNums x9).toList))) (by kernel_rfl) (bo_f h12)) ?_
  refine WPK.skip ?_
  refine WPK.region ?_
  refine RW.seg hT 3 [] [] [.int .i64 x7, .int .i64 (IntKind.i64.wrap (x7 + 1)), .int .i64 (IntKind.i64.wrap (x7 + 1))] [] (by kernel_rfl) (trivial) ?_
  refine RW.nil ?_
  subst hrec2
  exact ⟨n2, Nat.le_refl _, fun X h => kc (by kernel_rfl) rfl (h I2 (IntKind.i64.wrap (x7 + 1)) _ hf s kk e4 e5 e6 e1 e2 e3)⟩
  have hf := iteF h9 hf
  refine WPK.condF (Eq.trans (b := .bool (decide (x7 < (p0.Keys.length : Int)))) (by kernel_rfl) (bo_f h9)) ?_
  refine WPK.exit (blockQ.same ?_)
  refine WPK.seq ?_
  refine WPK.seq ?_
  refine WPK.region ?_
  refine RW.seg hT 1 [] [] [.int .i64 0] [] (by kernel_rfl) (trivial) ?_
  refine RW.nil ?_
  refine WPK.block ?_
  refine WPK.loop' (J := fun n3 D4 ds wz => ∀ X : Kont, (∀ (I3 : Nat → Prop) (x10 : Int) (w' : World), g20_l4 p0 p1 n3 x10 = some r → St w1 M I3 ((.blk b2 (.cells #[.bool p1.Leaf, .slice A4 p1.Pairs.length u4, .slice A5 p1.Keys.length u5, .slice A6 p1.Kids.length u6] 26 (0, 0))) :: (.blk b1 (.cells #[.bool p0.Leaf, .slice A1 p0.Pairs.length u1, .slice A2 p0.Keys.length u2, .slice A3 p0.Kids.length u3] 26 (0, 0))) :: F) w' → Kp I w I3 w' → Elems rp_T_api_Pair I3 w' A4 p1.Pairs → Elems (Rp.slice (Rp.int .u8)) I3 w' A5 p1.Keys → Elems (Rp.int .i64) I3 w' A6 p1.Kids → Elems rp_T_api_Pair I3 w' A1 p0.Pairs → Elems (Rp.slice (Rp.int .u8)) I3 w' A2 p0.Keys → Elems (Rp.int .i64) I3 w' A3 p0.Kids → X [(D4.getD 0 undef), (D4.getD 1 undef), .pointer (some ⟨b1, 0, none⟩), .pointer (some ⟨b2, 0, none⟩), .bool false, (D4.getD 5 undef), (D4.getD 6 undef), .int .i64 x10, (D4.getD 8 undef), (D4.getD 9 undef), (D4.getD 10 undef), (D4.getD 11 undef), (D4.getD 12 undef), (D4.getD 13 undef), (D4.getD 14 undef), (D4.getD 15 undef), (D4.getD 16 undef), (D4.getD 17 undef), (D4.getD 18 undef), (D4.getD 19 undef), (D4.getD 20 undef), (D4.getD 21 undef), (D4.getD 22 undef), (D4.getD 23 undef), (D4.getD 24 undef), (D4.getD 25 undef), (D4.getD 26 undef), (D4.getD 27 undef), (D4.getD 28 undef), (D4.getD 29 undef), (D4.getD 30 undef), (D4.getD 31 undef), (D4.getD 32 undef), (D4.getD 33 undef), (D4.getD 34 undef), (D4.getD 35 undef), (D4.getD 36 undef), (D4.getD 37 undef), (D4.getD 38 undef), (D4.getD 39 undef), (D4.getD 40 undef), (D4.getD 41 undef), (D4.getD 42 undef), (D4.getD 43 undef), (D4.getD 44 undef), (D4.getD 45 undef), (D4.getD 46 undef), (D4.getD 47 undef), (D4.getD 48 undef), (D4.getD 49 undef), (D4.getD 50 undef), (D4.getD 51 undef), (D4.getD 52 undef), (D4.getD 53 undef), (D4.getD 54 undef), (D4.getD 55 undef), (D4.getD 56 undef), (D4.getD 57 undef), (D4.getD 58 undef), (D4.getD 59 undef), (D4.getD 60 undef), (D4.getD 61 undef), (D4.getD 62 undef), (D4.getD 63 undef), (D4.getD 64 undef), (D4.getD 65 undef), (D4.getD 66 undef), (D4.getD 67 undef), (D4.getD 68 undef), (D4.getD 69 undef), (D4.getD 70 undef), (D4.getD 71 undef), (D4.getD 72 undef), (D4.getD 73 undef), (D4.getD 74 undef), (D4.getD 75 undef), (D4.getD 76 undef), (D4.getD 77 undef), (D4.getD 78 undef), (D4.getD 79 undef), (D4.getD 80 undef), (D4.getD 81 undef), (D4.getD 82 undef), (D4.getD 83 undef), (D4.getD 84 undef), (D4.getD 85 undef), (D4.getD 86 undef), (D4.getD 87 undef), (D4.getD 88 undef), (D4.getD 89 undef), (D4.getD 90 undef), (D4.getD 91 undef), (D4.getD 92 undef), (D4.getD 93 undef), (D4.getD 94 undef), (D4.getD 95 undef), (D4.getD 96 undef), (D4.getD 97 undef), (D4.getD 98 undef), (D4.getD 99 undef), (D4.getD 100 undef), (D4.getD 101 undef), (D4.getD 102 undef), (D4.getD 103 undef), (D4.getD 104 undef), (D4.getD 105 undef), (D4.getD 106 undef), (D4.getD 107 undef), (D4.getD 108 undef), (D4.getD 109 undef), (D4.getD 110 undef), (D4.getD 111 undef), (D4.getD 112 undef), (D4.getD 113 undef), (D4.getD 114 undef), (D4.getD 115 undef), (D4.getD 116 undef)] [] w') → X D4 ds wz) FUEL (fun X h => kc (by kernel_rfl) rfl (h I2 0 _ hf s kk e4 e5 e6 e1 e2 e3)) (fun _ _ _ hJ => hJ (fun _ _ _ => False) (by intro I3 x10 w8 hf s kk e4 e5 e6 e1 e2 e3; exact noneS hf)) ?_
  intro X4 hX4
  refine fun n3 D4 _ _ hJ => hJ (X4 n3) ?_
  clear s
  intro I3 x10 w8 hf s kk e4 e5 e6 e1 e2 e3
  refine hX4 _ _ _ _ ?_
  replace hf : g20_l4B p0 p1 (g20_l4 p0 p1 n3) x10 = some r := hf
  generalize hrec3 : g20_l4 p0 p1 n3 = rec3 at hf
  unfold g20_l4B at hf
  refine WPK.seq ?_
  refine WPK.seq ?_
  refine WPK.region ?_
  refine RW.seg hT 5 [.slice A3 p0.Kids.length u3] [] [.int .i64 x10, .pointer (some ⟨b1, 3, none⟩), .slice A3 p0.Kids.length u3, .int .i64 (p0.Kids.length : Int), .bool (decide (x10 < (p0.Kids.length : Int)))] [.cell ⟨b1, 3, none⟩ (.slice A3 p0.Kids.length u3)] (by kernel_rfl) (s.cell (i := 1) (off := 3) rfl rfl) ?_
  refine RW.nil ?_
  by_cases h13 : x10 < (p0.Kids.length : Int)
  have hf := iteT h13 hf
  refine WPK.condT (Eq.trans (b := .bool (decide (x10 < (p0.Kids.length : Int)))) (by kernel_rfl) (bo_t h13)) ?_
  refine WPK.skip ?_
  refine WPK.seq ?_
  refine WPK.block ?_
  refine WPK.seq ?_
  have e3S3 := e3
  have e4S3 := e4
  have e5S3 := e5
  have e6S3 := e6
  have e1S3 := e1
  have e2S3 := e2
  have kS3 : Kp I3 w8 I3 w8 := Kp.refl
  refine WPK.drawM (fun w' => ∃ I' : Nat → Prop, St w1 M I' ((.blk b2 (.cells #[.bool p1.Leaf, .slice A4 p1.Pairs.length u4, .slice A5 p1.Keys.length u5, .slice A6 p1.Kids.length u6] 26 (0, 0))) :: (.blk b1 (.cells #[.bool p0.Leaf, .slice A1 p0.Pairs.length u1, .slice A2 p0.Keys.length u2, .slice A3 p0.Kids.length u3] 26 (0, 0))) :: F) w' ∧ Kp I3 w8 I' w') 11 [0, 1, 0, 7, 15, 0, 32, 0, 224, 480, 1023] (by kernel_rfl) (by kernel_rfl) ?_
  intro ht3 w9 hd3
  have k5 := Kp.dr s hd3
  replace s := s.dr hd3
  replace e3 := e3.st k5
  replace e4 := e4.st k5
  replace e5 := e5.st k5
  replace e6 := e6.st k5
  replace e1 := e1.st k5
  replace e2 := e2.st k5
  replace kk := kk.trans k5
  replace kS3 := kS3.trans k5
  obtain ⟨x11, hx7, hf⟩ := bindS hf
  obtain ⟨h14, hx7⟩ := getS hx7
  obtain ⟨b7, o5, rfl⟩ := Elems.opn e3 hx7
  obtain ⟨cs15, hr15, ha7, hb7⟩ := Elems.getI e3S3 hx7
  obtain rfl : cs15 = [.int .i64 x11] := hr15
  obtain ⟨x12, hx8, hf⟩ := bindS hf
  obtain ⟨h15, hx8⟩ := getS hx8
  obtain ⟨b8, o6, rfl⟩ := Elems.opn e6 hx8
  obtain ⟨cs16, hr16, ha8, hb8⟩ := Elems.getI e6S3 hx8
  obtain rfl : cs16 = [.int .i64 x12] := hr16
  refine RD.segM hT ht3 (by kernel_rfl) [0, 1, 2, 3, 4, 5, 6, 7, 8, 9, 10] [.slice (some ⟨b7, o5, none⟩) p0.Kids.length u3, .int .i64 x11, .slice (some ⟨b8, o6, none⟩) p1.Kids.length u6, .int .i64 x12] [(116, .bool (decide (x11 ≠ x12)))] [.pointer (some ⟨b1, 3, none⟩), .slice (some ⟨b7, o5, none⟩) p0.Kids.length u3, .int .i64 x10, .pointer (some ⟨b7, o5 + x10.toNat * 1, none⟩), .int .i64 x11, .pointer (some ⟨b2, 3, none⟩), .slice (some ⟨b8, o6, none⟩) p1.Kids.length u6, .int .i64 x10, .pointer (some ⟨b8, o6 + x10.toNat * 1, none⟩), .int .i64 x12, .bool (decide (x11 ≠ x12))] [.cell ⟨b1, 3, none⟩ (.slice (some ⟨b7, o5, none⟩) p0.Kids.length u3), .idx x10 p0.Kids.length, .cell ⟨b7, o5 + x10.toNat * 1, none⟩ (.int .i64 x11), .cell ⟨b2, 3, none⟩ (.slice (some ⟨b8, o6, none⟩) p1.Kids.length u6), .idx x10 p1.Kids.length, .cell ⟨b8, o6 + x10.toNat * 1, none⟩ (.int .i64 x12), .veq (.bool (x11 != x12)) (.bool (decide (x11 ≠ x12)))] (by kernel_rfl) (by rintro w' ⟨I', s, k⟩; have e3 := e3S3.st k; have e4 := e4S3.st k; have e5 := e5S3.st k; have e6 := e6S3.st k; have e1 := e1S3.st k; have e2 := e2S3.st k; have ha7 := ha7.st k hb7; have ha8 := ha8.st k hb8; exact ⟨s.cell (i := 1) (off := 3) rfl rfl, h14, ha7 0 _ rfl, s.cell (i := 0) (off := 3) rfl rfl, h15, ha8 0 _ rfl, ne_v⟩) ⟨_, s.pick [0, 1] 2 rfl, kS3⟩ ?_
  refine RD.done (by kernel_rfl) ?_
  by_cases h16 : x11 ≠ x12
  have hf := iteT h16 hf
  refine WPK.condT (Eq.trans (b := .bool (decide (x11 ≠ x12))) (by kernel_rfl) (bo_t h16)) ?_
  refine WPK.seq ?_
  refine WPK.region ?_
  refine RW.seg hT 1 [] [] [.bool false] [] (by kernel_rfl) (trivial) ?_
  refine RW.nil ?_
  refine WPK.ret (blockQ.ret (blockQ.ret (?_)))
  obtain rfl := someS hf
  refine Fin.of (rs := [.tmp 4]) hT [] (.bool false) [] rfl (by kernel_rfl) (trivial) ?_
  replace s := s.pick [] 2 rfl
  exact fun X h => vc rfl (h I3 _ s kk)
  have hf := iteF h16 hf
  refine WPK.condF (Eq.trans (b := .bool (decide (x11 ≠ x12))) (by kernel_rfl) (bo_f h16)) ?_
  refine WPK.skip ?_
  refine WPK.region ?_
  refine RW.seg hT 3 [] [] [.int .i64 x10, .int .i64 (IntKind.i64.wrap (x10 + 1)), .int .i64 (IntKind.i64.wrap (x10 + 1))] [] (by kernel_rfl) (trivial) ?_
  refine RW.nil ?_
  subst hrec3
  exact ⟨n3, Nat.le_refl _, fun X h => kc (by kernel_rfl) rfl (h I3 (IntKind.i64.wrap (x10 + 1)) _ hf s kk e4 e5 e6 e1 e2 e3)⟩
  have hf := iteF h13 hf
  refine WPK.condF (Eq.trans (b := .bool (decide (x10 < (p0.Kids.length : Int)))) (by kernel_rfl) (bo_f h13)) ?_
  refine WPK.exit (blockQ.same ?_)
  refine WPK.seq ?_
  refine WPK.region ?_
  refine RW.seg hT 1 [] [] [.bool true] [] (by kernel_rfl) (trivial) ?_
  refine RW.nil ?_
  refine WPK.ret (?_)
  obtain rfl := someS hf
  refine Fin.of (rs := [.tmp 4]) hT [] (.bool true) [] rfl (by kernel_rfl) (trivial) ?_
  replace s := s.pick [] 2 rfl
  exact fun X h => vc rfl (h I3 _ s kk)
  refine WPK.region ?_
  refine RW.seg hT 5 [.bool p0.Leaf, .bool p1.Leaf] [(12, .bool (decide (p0.Leaf ≠ p1.Leaf)))] [.pointer (some ⟨b1, 0, none⟩), .bool p0.Leaf, .pointer (some ⟨b2, 0, none⟩), .bool p1.Leaf, .bool (decide (p0.Leaf ≠ p1.Leaf))] [.cell ⟨b1, 0, none⟩ (.bool p0.Leaf), .cell ⟨b2, 0, none⟩ (.bool p1.Leaf), .veq (.bool (!(p0.Leaf == p1.Leaf))) (.bool (decide (p0.Leaf ≠ p1.Leaf)))] (by kernel_rfl) (⟨s.cell (i := 1) (off := 0) rfl rfl, s.cell (i := 0) (off := 0) rfl rfl, bne_v⟩) ?_
  by_cases h17 : p0.Leaf ≠ p1.Leaf
  have hf := iteT h17 hf
  refine RW.seg hT 27 [] [(13, .bool true)] [.bool true, undef, undef, undef, undef, undef, undef, undef, .bool true, .bool true, undef, undef, undef, undef, undef, undef, undef, .bool true, .bool true, undef, undef, undef, undef, undef, undef, undef, .bool true] [.veq (.bool (decide (p0.Leaf ≠ p1.Leaf))) (.bool true)] (by kernel_rfl) (bo_t h17) ?_
  refine RW.nil ?_
  exact fun X h => kc (by kernel_rfl) rfl (h true hf)
  have hf := iteF h17 hf
  refine RW.seg hT 9 [.slice A1 p0.Pairs.length u1, .slice A4 p1.Pairs.length u4] [(13, .bool false), (20, .bool (decide ((p0.Pairs.length : Int) ≠ (p1.Pairs.length : Int))))] [.bool false, .pointer (some ⟨b1, 1, none⟩), .slice A1 p0.Pairs.length u1, .int .i64 (p0.Pairs.length : Int), .pointer (some ⟨b2, 1, none⟩), .slice A4 p1.Pairs.length u4, .int .i64 (p1.Pairs.length : Int), .bool (decide ((p0.Pairs.length : Int) ≠ (p1.Pairs.length : Int))), .bool (decide ((p0.Pairs.length : Int) ≠ (p1.Pairs.length : Int)))] [.veq (.bool (decide (p0.Leaf ≠ p1.Leaf))) (.bool false), .cell ⟨b1, 1, none⟩ (.slice A1 p0.Pairs.length u1), .cell ⟨b2, 1, none⟩ (.slice A4 p1.Pairs.length u4), .veq (.bool ((p0.Pairs.length : Int) != (p1.Pairs.length : Int))) (.bool (decide ((p0.Pairs.length : Int) ≠ (p1.Pairs.length : Int))))] (by kernel_rfl) (⟨bo_f h17, s.cell (i := 1) (off := 1) rfl rfl, s.cell (i := 0) (off := 1) rfl rfl, ne_v⟩) ?_
  by_cases h18 : (p0.Pairs.length : Int) ≠ (p1.Pairs.length : Int)
  have hf := iteT h18 hf
  refine RW.seg hT 18 [] [(22, .bool true)] [.bool true, undef, undef, undef, undef, undef, undef, undef, .bool true, .bool true, undef, undef, undef, undef, undef, undef, undef, .bool true] [.veq (.bool (decide ((p0.Pairs.length : Int) ≠ (p1.Pairs.length : Int)))) (.bool true)] (by kernel_rfl) (bo_t h18) ?_
  refine RW.nil ?_
  exact fun X h => kc (by kernel_rfl) rfl (h true hf)
  have hf := iteF h18 hf
  refine RW.seg hT 9 [.slice A2 p0.Keys.length u2, .slice A5 p1.Keys.length u5] [(22, .bool false), (29, .bool (decide ((p0.Keys.length : Int) ≠ (p1.Keys.length : Int))))] [.bool false, .pointer (some ⟨b1, 2, none⟩), .slice A2 p0.Keys.length u2, .int .i64 (p0.Keys.length : Int), .pointer (some ⟨b2, 2, none⟩), .slice A5 p1.Keys.length u5, .int .i64 (p1.Keys.length : Int), .bool (decide ((p0.Keys.length : Int) ≠ (p1.Keys.length : Int))), .bool (decide ((p0.Keys.length : Int) ≠ (p1.Keys.length : Int)))] [.veq (.bool (decide ((p0.Pairs.length : Int) ≠ (p1.Pairs.length : Int)))) (.bool false), .cell ⟨b1, 2, none⟩ (.slice A2 p0.Keys.length u2), .cell ⟨b2, 2, none⟩ (.slice A5 p1.Keys.length u5), .veq (.bool ((p0.Keys.length : Int) != (p1.Keys.length : Int))) (.bool (decide ((p0.Keys.length : Int) ≠ (p1.Keys.length : Int))))] (by kernel_rfl) (⟨bo_f h18, s.cell (i := 1) (off := 2) rfl rfl, s.cell (i := 0) (off := 2) rfl rfl, ne_v⟩) ?_
  by_cases h19 : (p0.Keys.length : Int) ≠ (p1.Keys.length : Int)
  have hf := iteT h19 hf
  refine RW.seg hT 9 [] [(31, .bool true)] [.bool true, undef, undef, undef, undef, undef, undef, undef, .bool true] [.veq (.bool (decide ((p0.Keys.length : Int) ≠ (p1.Keys.length : Int)))) (.bool true)] (by kernel_rfl) (bo_t h19) ?_
  refine RW.nil ?_
  exact fun X h => kc (by kernel_rfl) rfl (h true hf)
  have hf := iteF h19 hf
  refine RW.seg hT 9 [.slice A3 p0.Kids.length u3, .slice A6 p1.Kids.length u6] [(31, .bool false), (38, .bool (decide ((p0.Kids.length : Int) ≠ (p1.Kids.length : Int))))] [.bool false, .pointer (some ⟨b1, 3, none⟩), .slice A3 p0.Kids.length u3, .int .i64 (p0.Kids.length : Int), .pointer (some ⟨b2, 3, none⟩), .slice A6 p1.Kids.length u6, .int .i64 (p1.Kids.length : Int), .bool (decide ((p0.Kids.length : Int) ≠ (p1.Kids.length : Int))), .bool (decide ((p0.Kids.length : Int) ≠ (p1.Kids.length : Int)))] [.veq (.bool (decide ((p0.Keys.length : Int) ≠ (p1.Keys.length : Int)))) (.bool false), .cell ⟨b1, 3, none⟩ (.slice A3 p0.Kids.length u3), .cell ⟨b2, 3, none⟩ (.slice A6 p1.Kids.length u6), .veq (.bool ((p0.Kids.length : Int) != (p1.Kids.length : Int))) (.bool (decide ((p0.Kids.length : Int) ≠ (p1.Kids.length : Int))))] (by kernel_rfl) (⟨bo_f h19, s.cell (i := 1) (off := 3) rfl rfl, s.cell (i := 0) (off := 3) rfl rfl, ne_v⟩) ?_
  refine RW.nil ?_
  exact fun X h => kc (by kernel_rfl) rfl (h (decide ((p0.Kids.length : Int) ≠ (p1.Kids.length : Int))) hf)
end Go.Proofs.Ytefjbhogpgihaaa
