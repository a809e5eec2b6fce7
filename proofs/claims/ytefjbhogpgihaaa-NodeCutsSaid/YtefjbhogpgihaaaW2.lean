/- PRINTED BY sy.py: each call computes what the plain function of its number tells. -/
import Derived.Test.YtefjbhogpgihaaaW1
namespace Go.Proofs.Ytefjbhogpgihaaa
open Go Go.SX Go.RowKit
set_option maxRecDepth 100000
set_option linter.unusedVariables false
attribute [local irreducible] WPK RW RD Ret SX.Fin SX.Any opK RoundBeg RoundEnd RangeEnd Rounds
theorem c30 {w1 w : World} {M I : Nat → Prop} {F : List It} (p0 : T_api_Node) (A1 : Option Addr) (u1 : Nat) (A2 : Option Addr) (u2 : Nat) (A3 : Option Addr) (u3 : Nat) (hc1 : (p0.Pairs.length ≤ u1 ∧ u1 ≤ 9223372036854775807)) (e1 : Elems rp_T_api_Pair I w A1 p0.Pairs) (hc2 : (p0.Keys.length ≤ u2 ∧ u2 ≤ 9223372036854775807)) (e2 : Elems (Rp.slice (Rp.int .u8)) I w A2 p0.Keys) (hc3 : (p0.Kids.length ≤ u3 ∧ u3 ≤ 9223372036854775807)) (e3 : Elems (Rp.int .i64) I w A3 p0.Kids) (s : St w1 M I (F) w) {r : (Int × (List Int) × Int)} (hf : g30 p0 = some r) :
   Ret Try.prog 30 [.agg #[.bool p0.Leaf, .slice A1 p0.Pairs.length u1, .slice A2 p0.Keys.length u2, .slice A3 p0.Kids.length u3]] w fun v wz => ∀ X : Value → World → Prop, (∀ (I' : Nat → Prop) (A4 : Option Addr) (n1 : Nat) (u4 : Nat) (cl1 : List Value) (w' : World), St w1 M I' ((.sl (.slice A4 n1 u4) 5 1 n1 cl1) :: F) w' → Kp I w I' w' → n1 = r.2.1.length → RepL (Rp.int .u8) I' w' cl1 r.2.1 → X (.tuple #[.int .i64 r.1, .slice A4 n1 u4, .int .i64 r.2.2]) w') → X v wz := by
 have kk : Kp I w I w := Kp.refl
 unfold g30 at hf
 refine Ret.of Try.func30 rfl ?_
 refine WPK.seq ?_
 refine WPK.region ?_
 refine RW.op (by kernel_rfl) (OK.new hT (f := fun b => .pointer (some ⟨b, 0, none⟩)) (cs := [.bool p0.Leaf, .slice A1 p0.Pairs.length u1, .slice A2 p0.Keys.length u2, .slice A3 p0.Kids.length u3]) (e := 26) (c := .tt) s (by kernel_rfl) trivial ?_)
 clear s
 rintro w2 b1 s k1 -
 replace e1 := e1.st k1
 replace e2 := e2.st k1
 replace e3 := e3.st k1
 replace kk := kk.trans k1
 refine RW.seg hT 3 [] [] [.int .i64 0, .slice none 0 0, .int .i64 0] [] (by kernel_rfl) (trivial) ?_
 refine RW.nil ?_
 refine WPK.seq ?_
 refine WPK.seq ?_
 refine WPK.region ?_
 refine RW.seg hT 1 [.agg #[.bool p0.Leaf, .slice A1 p0.Pairs.length u1, .slice A2 p0.Keys.length u2, .slice A3 p0.Kids.length u3]] [] [.agg #[.bool p0.Leaf, .slice A1 p0.Pairs.length u1, .slice A2 p0.Keys.length u2, .slice A3 p0.Kids.length u3]] [.cells ⟨b1, 0, none⟩ [.bool p0.Leaf, .slice A1 p0.Pairs.length u1, .slice A2 p0.Keys.length u2, .slice A3 p0.Kids.length u3] 4] (by kernel_rfl) (s.cells (i := 0) rfl rfl rfl) ?_
 obtain ⟨x1, hx1, hf⟩ := bindS hf
 refine RW.op (by kernel_rfl) (OK.call' en26 (by kernel_rfl) (c26 (F := (.blk b1 (.cells #[.bool p0.Leaf, .slice A1 p0.Pairs.length u1, .slice A2 p0.Keys.length u2, .slice A3 p0.Kids.length u3] 26 (0, 0))) :: F) p0 A1 u1 A2 u2 A3 u3 hc1 e1 hc2 e2 hc3 e3 s hx1) ?_)
 intro X1 hX1
 refine fun _ _ hJ => hJ X1 ?_
 clear s
 intro I1 w3 s k2
 refine hX1 _ _ ?_
 replace e1 := e1.st k2
 replace e2 := e2.st k2
 replace e3 := e3.st k2
 replace kk := kk.trans k2
 refine RW.seg hT 1 [] [] [.int .i64 x1] [] (by kernel_rfl) (trivial) ?_
 refine RW.nil ?_
 refine WPK.seq ?_
 refine WPK.region ?_
 refine RW.seg hT 2 [] [(15, .bool (decide (x1 ≠ 0)))] [.int .i64 x1, .bool (decide (x1 ≠ 0))] [.veq (.bool (x1 != 0)) (.bool (decide (x1 ≠ 0)))] (by kernel_rfl) (ne_v) ?_
 refine RW.nil ?_
 by_cases h1 : x1 ≠ 0
 have hf := iteT h1 hf
 refine WPK.condT (Eq.trans (b := .bool (decide (x1 ≠ 0))) (by kernel_rfl) (bo_t h1)) ?_
 refine WPK.seq ?_
 refine WPK.region ?_
 refine RW.seg hT 4 [] [] [.int .i64 x1, .int .i64 0, .slice none 0 0, .int .i64 x1] [] (by kernel_rfl) (trivial) ?_
 refine RW.nil ?_
 refine WPK.ret (?_)
 obtain rfl := someS hf
 refine Fin.of (rs := [.tmp 2, .tmp 3, .tmp 4]) hT [] (.tuple #[.int .i64 0, .slice none 0 0, .int .i64 x1]) [] rfl (by kernel_rfl) (trivial) ?_
 replace s := s.pushNil 5 1
 replace s := s.pick [0] 2 rfl
 exact fun X h => vc rfl (h I1 none 0 0 [] _ s kk rfl (RepL.nil (r := (Rp.int .u8))))
 have hf := iteF h1 hf
 refine WPK.condF (Eq.trans (b := .bool (decide (x1 ≠ 0))) (by kernel_rfl) (bo_f h1)) ?_
 refine WPK.skip ?_
 refine WPK.seq ?_
 refine WPK.region ?_
 refine RW.seg hT 1 [.agg #[.bool p0.Leaf, .slice A1 p0.Pairs.length u1, .slice A2 p0.Keys.length u2, .slice A3 p0.Kids.length u3]] [] [.agg #[.bool p0.Leaf, .slice A1 p0.Pairs.length u1, .slice A2 p0.Keys.length u2, .slice A3 p0.Kids.length u3]] [.cells ⟨b1, 0, none⟩ [.bool p0.Leaf, .slice A1 p0.Pairs.length u1, .slice A2 p0.Keys.length u2, .slice A3 p0.Kids.length u3] 4] (by kernel_rfl) (s.cells (i := 0) rfl rfl rfl) ?_
 obtain ⟨x2, hx2, hf⟩ := bindS hf
 refine RW.op (by kernel_rfl) (OK.call' en66 (by kernel_rfl) (c66 (F := (.blk b1 (.cells #[.bool p0.Leaf, .slice A1 p0.Pairs.length u1, .slice A2 p0.Keys.length u2, .slice A3 p0.Kids.length u3] 26 (0, 0))) :: F) p0 A1 u1 A2 u2 A3 u3 hc1 e1 hc2 e2 hc3 e3 s hx2) ?_)
 intro X2 hX2
 refine fun _ _ hJ => hJ X2 ?_
 clear s
 intro I2 w4 s k3
 refine hX2 _ _ ?_
 replace e1 := e1.st k3
 replace e2 := e2.st k3
 replace e3 := e3.st k3
 replace kk := kk.trans k3
 refine RW.seg hT 1 [undef] [] [.int .u8 (IntKind.u8.wrap x2)] [] (by kernel_rfl) (trivial) ?_
 refine RW.op (by kernel_rfl) (OK.new hT (f := fun b => .slice (some ⟨b, 0, none⟩) 1 1) (cs := [.int .u8 (IntKind.u8.wrap x2)]) (e := 5) (c := .tt) s (by kernel_rfl) trivial ?_)
 clear s
 rintro w5 b2 s k4 -
 replace e1 := e1.st k4
 replace e2 := e2.st k4
 replace e3 := e3.st k4
 replace kk := kk.trans k4
 have rp1 : RepL (Rp.int .u8) I2 w5 [.int .u8 (IntKind.u8.wrap x2)] ([IntKind.u8.wrap x2] : List Int) := RepL.cons (c := [.int .u8 (IntKind.u8.wrap x2)]) (d := []) (rfl) (RepL.nil)
 replace s : St w1 M I2 ((.sl (.slice (some ⟨b2, 0, none⟩) 1 1) 5 1 1 [.int .u8 (IntKind.u8.wrap x2)]) :: (.blk b1 (.cells #[.bool p0.Leaf, .slice A1 p0.Pairs.length u1, .slice A2 p0.Keys.length u2, .slice A3 p0.Kids.length u3] 26 (0, 0))) :: F) w5 := s.blkSl (i := 0) (n := 1) (c := 1) (size := 1) rfl rfl (Nat.le_refl _) (by decide)
 refine RW.seg hT 1 [] [] [.slice (some ⟨b2, 0, none⟩) 1 1] [] (by kernel_rfl) (trivial) ?_
 refine RW.nil ?_
 refine WPK.seq ?_
 refine WPK.region ?_
 refine RW.seg hT 1 [] [] [.int .i64 3] [] (by kernel_rfl) (trivial) ?_
 refine RW.nil ?_
 refine WPK.seq ?_
 refine WPK.seq ?_
 refine WPK.region ?_
 refine RW.seg hT 4 [.slice A1 p0.Pairs.length u1] [] [.pointer (some ⟨b1, 1, none⟩), .slice A1 p0.Pairs.length u1, .int .i64 (p0.Pairs.length : Int), .int .i64 0] [.cell ⟨b1, 1, none⟩ (.slice A1 p0.Pairs.length u1)] (by kernel_rfl) (s.cell (i := 1) (off := 1) rfl rfl) ?_
 refine RW.nil ?_
 refine WPK.block ?_
 refine WPK.loop' (J := fun n2 D1 ds wz => ∀ X : Kont, (∀ (I3 : Nat → Prop) (x3 : (List Int)) (x4 : Int) (A5 : Option Addr) (n3 : Nat) (u5 : Nat) (cl2 : List Value) (w' : World), g30_l1 p0 n2 x3 x4 = some r → St w1 M I3 ((.sl (.slice A5 n3 u5) 5 1 n3 cl2) :: (.blk b1 (.cells #[.bool p0.Leaf, .slice A1 p0.Pairs.length u1, .slice A2 p0.Keys.length u2, .slice A3 p0.Kids.length u3] 26 (0, 0))) :: F) w' → Kp I w I3 w' → n3 = x3.length → RepL (Rp.int .u8) I3 w' cl2 x3 → Elems rp_T_api_Pair I3 w' A1 p0.Pairs → Elems (Rp.slice (Rp.int .u8)) I3 w' A2 p0.Keys → Elems (Rp.int .i64) I3 w' A3 p0.Kids → X [(gd D1 0), .pointer (some ⟨b1, 0, none⟩), .int .i64 0, .slice none 0 0, .int .i64 0, (gd D1 5), .slice A5 n3 u5, .int .i64 3, (gd D1 8), (gd D1 9), undef, undef, (gd D1 12), (gd D1 13), (gd D1 14), (gd D1 15), (gd D1 16), (gd D1 17), (gd D1 18), (gd D1 19), (gd D1 20), (gd D1 21), .slice A1 p0.Pairs.length u1, .int .i64 (p0.Pairs.length : Int), .int .i64 x4, (gd D1 25), (gd D1 26), (gd D1 27), (gd D1 28), (gd D1 29), (gd D1 30), (gd D1 31), (gd D1 32), (gd D1 33), (gd D1 34), (gd D1 35), undef, undef, undef, undef, undef, undef, undef, undef, undef, undef, undef, undef, undef, undef, undef, undef, undef, undef, undef, undef, undef, undef, undef, undef, undef, undef, undef, undef, undef, undef, undef, undef, undef, undef, undef, undef] [] w') → X D1 ds wz) FUEL (fun X h => kc (by kernel_rfl) rfl (h I2 ([IntKind.u8.wrap x2] : List Int) 0 (some ⟨b2, 0, none⟩) 1 1 [.int .u8 (IntKind.u8.wrap x2)] _ hf s kk rfl rp1 e1 e2 e3)) (fun _ _ _ hJ => hJ (fun _ _ _ => False) (by intro I3 x3 x4 A5 n3 u5 cl2 w6 hf s kk hn1 rp2 e1 e2 e3; exact noneS hf)) ?_
 intro X3 hX3
 refine fun n2 D1 _ _ hJ => hJ (X3 n2) ?_
 clear s
 intro I3 x3 x4 A5 n3 u5 cl2 w6 hf s kk hn1 rp2 e1 e2 e3
 refine hX3 _ _ _ _ ?_
 replace hf : g30_l1B p0 (g30_l1 p0 n2) x3 x4 = some r := hf
 generalize hrec1 : g30_l1 p0 n2 = rec1 at hf
 unfold g30_l1B at hf
 refine WPK.seq ?_
 refine WPK.region ?_
 refine RW.seg hT 1 [] [] [.bool (decide (x4 < (p0.Pairs.length : Int)))] [] (by kernel_rfl) (trivial) ?_
 refine RW.nil ?_
 refine WPK.seq ?_
 by_cases h2 : x4 < (p0.Pairs.length : Int)
 have hf := iteT h2 hf
 refine WPK.condT (Eq.trans (b := .bool (decide (x4 < (p0.Pairs.length : Int)))) (by kernel_rfl) (bo_t h2)) ?_
 refine WPK.skip ?_
 refine WPK.seq ?_
 refine WPK.block ?_
 refine WPK.seq ?_
 refine WPK.region ?_
 obtain ⟨x5, hx3, hf⟩ := bindS hf
 obtain ⟨h3, hx3⟩ := getS hx3
 obtain ⟨b3, o1, rfl⟩ := Elems.opn e1 hx3
 obtain ⟨cs1, hr1, ha1⟩ := Elems.get e1 hx3
 obtain ⟨cs2, cs3, rfl, hr2, hr3⟩ := hr1
 obtain ⟨A6, u6, rfl, q1, q2, e4⟩ := hr2
 have hc4 := And.intro q1 q2
 obtain ⟨A7, u7, rfl, q3, q4, e5⟩ := hr3
 have hc5 := And.intro q3 q4
 refine RW.seg hT 2 [.agg #[.slice A6 x5.Key.length u6, .slice A7 x5.Val.length u7]] [] [.pointer (some ⟨b3, o1 + x4.toNat * 2, none⟩), .agg #[.slice A6 x5.Key.length u6, .slice A7 x5.Val.length u7]] [.idx x4 p0.Pairs.length, .cells ⟨b3, o1 + x4.toNat * 2, none⟩ [.slice A6 x5.Key.length u6, .slice A7 x5.Val.length u7] 2] (by kernel_rfl) (⟨h3, at_cells ha1 (off := 0) rfl rfl⟩) ?_
 refine RW.op (by kernel_rfl) (OK.new hT (f := fun b => .pointer (some ⟨b, 0, none⟩)) (cs := [.slice none 0 0, .slice none 0 0]) (e := 48) (c := .tt) s (by kernel_rfl) trivial ?_)
 clear s
 rintro w7 b4 s k5 -
 replace e1 := e1.st k5
 replace e4 := e4.st k5
 replace e5 := e5.st k5
 replace e2 := e2.st k5
 replace e3 := e3.st k5
 replace rp2 := rp2.st k5
 replace kk := kk.trans k5
 refine RW.op (by kernel_rfl) (OK.store hT (i := 0) (b := b4) (off := 0) (n := 2) (vs := [.slice A6 x5.Key.length u6, .slice A7 x5.Val.length u7]) (cs := [.slice none 0 0, .slice none 0 0]) (e := 48) s (by kernel_rfl) rfl rfl (flat_ok rfl) (Nat.le_of_ble_eq_true rfl) ?_)
 clear s
 rintro w8 s k6 -
 replace e1 := e1.st k6
 replace e4 := e4.st k6
 replace e5 := e5.st k6
 replace e2 := e2.st k6
 replace e3 := e3.st k6
 replace rp2 := rp2.st k6
 replace kk := kk.trans k6
 refine RW.nil ?_
 have e1S1 := e1
 have e4S1 := e4
 have e5S1 := e5
 have e2S1 := e2
 have e3S1 := e3
 have rp2S1 := rp2
 have kS1 : Kp I3 w8 I3 w8 := Kp.refl
 refine WPK.drawM (fun w' => ∃ I' : Nat → Prop, St w1 M I' ((.blk b4 (.cells #[.slice A6 x5.Key.length u6, .slice A7 x5.Val.length u7] 48 (0, 0))) :: (.sl (.slice A5 n3 u5) 5 1 n3 cl2) :: (.blk b1 (.cells #[.bool p0.Leaf, .slice (some ⟨b3, o1, none⟩) p0.Pairs.length u1, .slice A2 p0.Keys.length u2, .slice A3 p0.Kids.length u3] 26 (0, 0))) :: F) w' ∧ Kp I3 w8 I' w') 8 [0, 0, 2, 7, 0, 16, 63, 127] (by kernel_rfl) (by kernel_rfl) ?_
 intro ht1 w9 hd1
 have k7 := Kp.dr s hd1
 replace s := s.dr hd1
 replace e1 := e1.st k7
 replace e4 := e4.st k7
 replace e5 := e5.st k7
 replace e2 := e2.st k7
 replace e3 := e3.st k7
 replace rp2 := rp2.st k7
 replace kk := kk.trans k7
 replace kS1 := kS1.trans k7
 refine RD.segM hT ht1 (by kernel_rfl) [0, 1, 2, 4, 5] [.slice A6 x5.Key.length u6, .slice A7 x5.Val.length u7] [] [.slice A5 n3 u5, .pointer (some ⟨b4, 0, none⟩), .slice A6 x5.Key.length u6, .pointer (some ⟨b4, 1, none⟩), .slice A7 x5.Val.length u7] [.cell ⟨b4, 0, none⟩ (.slice A6 x5.Key.length u6), .cell ⟨b4, 1, none⟩ (.slice A7 x5.Val.length u7)] (by kernel_rfl) (by rintro w' ⟨I', s, k⟩; have e1 := e1S1.st k; have e4 := e4S1.st k; have e5 := e5S1.st k; have e2 := e2S1.st k; have e3 := e3S1.st k; have rp2 := rp2S1.st k; exact ⟨s.cell (i := 0) (off := 0) rfl rfl, s.cell (i := 0) (off := 1) rfl rfl⟩) ⟨_, s.pick [0, 1, 2] 3 rfl, kS1⟩ ?_
 have sa1 := s
 obtain ⟨hc6, e6⟩ := St.lend s (i := 1) rfl hn1 rp2
 have k8 := Kp.shut (I := I3) (w := w9) (p := .sl (.slice A5 n3 u5) 5 1 n3 cl2)
 replace s := s.shut 1 rfl
 obtain ⟨x6, hx4, hf⟩ := bindS hf
 have hc7 := c67 (F := (.blk b4 (.cells #[.slice A6 x5.Key.length u6, .slice A7 x5.Val.length u7] 48 (0, 0))) :: (.blk b1 (.cells #[.bool p0.Leaf, .slice (some ⟨b3, o1, none⟩) p0.Pairs.length u1, .slice A2 p0.Keys.length u2, .slice A3 p0.Kids.length u3] 26 (0, 0))) :: F) x3 x5.Key A5 u5 A6 u6 hc6 e6 hc4 (e4.st k8) s hx4
 rw [← hn1] at hc7
 refine RD.op (i := 3) rfl (by kernel_rfl) (by kernel_rfl) (OK.call' en67 (by kernel_rfl) (hc7) ?_)
 intro X4 hX4
 refine fun _ _ hJ => hJ X4 ?_
 clear s
 intro I4 A8 n4 u8 cl3 w10 s k9 hn2 rp3
 refine hX4 _ _ ?_
 have s' := St.back sa1 (i := 1) rfl s k9
 replace k9 := Kp.back sa1 (i := 1) rfl k9
 replace s := s'; clear s'
 obtain ⟨I5, s, k9⟩ : ∃ I : Nat → Prop, St w1 M I ((.sl (.slice A5 n3 u5) 5 1 n3 cl2) :: (.sl (.slice A8 n4 u8) 5 1 n4 cl3) :: (.blk b4 (.cells #[.slice A6 x5.Key.length u6, .slice A7 x5.Val.length u7] 48 (0, 0))) :: (.blk b1 (.cells #[.bool p0.Leaf, .slice (some ⟨b3, o1, none⟩) p0.Pairs.length u1, .slice A2 p0.Keys.length u2, .slice A3 p0.Kids.length u3] 26 (0, 0))) :: F) w10 ∧ Kp _ _ I _ := ⟨_, s, k9⟩
 replace rp3 := RepL.free (I' := I5) (w' := w10) free_int rp3
 replace e1 := e1.st k9
 replace e4 := e4.st k9
 replace e5 := e5.st k9
 replace e2 := e2.st k9
 replace e3 := e3.st k9
 replace rp2 := rp2.st k9
 replace kk := kk.trans k9
 replace kS1 := kS1.trans k9
 refine ⟨fun _ => ⟨_, s.pick [2, 0, 3] 4 rfl, kS1⟩, RD.fold ?_⟩
 have sa2 := s
 obtain ⟨hc8, e7⟩ := St.lend s (i := 1) rfl hn2 rp3
 have k10 := Kp.shut (I := I5) (w := w10) (p := .sl (.slice A8 n4 u8) 5 1 n4 cl3)
 replace s := s.shut 1 rfl
 obtain ⟨x7, hx5, hf⟩ := bindS hf
 have hc9 := c67 (F := (.sl (.slice A5 n3 u5) 5 1 n3 cl2) :: (.blk b4 (.cells #[.slice A6 x5.Key.length u6, .slice A7 x5.Val.length u7] 48 (0, 0))) :: (.blk b1 (.cells #[.bool p0.Leaf, .slice (some ⟨b3, o1, none⟩) p0.Pairs.length u1, .slice A2 p0.Keys.length u2, .slice A3 p0.Kids.length u3] 26 (0, 0))) :: F) x6 x5.Val A8 u8 A7 u7 hc8 e7 hc5 (e5.st k10) s hx5
 rw [← hn2] at hc9
 refine RD.op (i := 6) rfl (by kernel_rfl) (by kernel_rfl) (OK.call' en67 (by kernel_rfl) (hc9) ?_)
 intro X5 hX5
 refine fun _ _ hJ => hJ X5 ?_
 clear s
 intro I6 A9 n5 u9 cl4 w11 s k11 hn3 rp4
 refine hX5 _ _ ?_
 have s' := St.back sa2 (i := 1) rfl s k11
 replace k11 := Kp.back sa2 (i := 1) rfl k11
 replace s := s'; clear s'
 obtain ⟨I7, s, k11⟩ : ∃ I : Nat → Prop, St w1 M I ((.sl (.slice A8 n4 u8) 5 1 n4 cl3) :: (.sl (.slice A9 n5 u9) 5 1 n5 cl4) :: (.sl (.slice A5 n3 u5) 5 1 n3 cl2) :: (.blk b4 (.cells #[.slice A6 x5.Key.length u6, .slice A7 x5.Val.length u7] 48 (0, 0))) :: (.blk b1 (.cells #[.bool p0.Leaf, .slice (some ⟨b3, o1, none⟩) p0.Pairs.length u1, .slice A2 p0.Keys.length u2, .slice A3 p0.Kids.length u3] 26 (0, 0))) :: F) w11 ∧ Kp _ _ I _ := ⟨_, s, k11⟩
 replace rp4 := RepL.free (I' := I7) (w' := w11) free_int rp4
 replace e1 := e1.st k11
 replace e4 := e4.st k11
 replace e5 := e5.st k11
 replace e2 := e2.st k11
 replace e3 := e3.st k11
 replace rp2 := rp2.st k11
 replace rp3 := rp3.st k11
 replace kk := kk.trans k11
 replace kS1 := kS1.trans k11
 refine ⟨fun _ => ⟨_, s.pick [3, 2, 4] 5 rfl, kS1⟩, RD.fold ?_⟩
 refine RD.segM hT ht1 (by kernel_rfl) [7] [] [] [.slice A9 n5 u9] [] (by kernel_rfl) (fun _ _ => trivial) ⟨_, s.pick [3, 2, 4] 5 rfl, kS1⟩ ?_
 refine RD.done (by kernel_rfl) ?_
 refine WPK.region ?_
 refine RW.seg hT 2 [] [] [.int .i64 (IntKind.i64.wrap (x4 + 1)), .int .i64 (IntKind.i64.wrap (x4 + 1))] [] (by kernel_rfl) (trivial) ?_
 refine RW.nil ?_
 subst hrec1
 replace s := s.pick [1, 4] 5 rfl
 exact ⟨n2, Nat.le_refl _, fun X h => kc (by kernel_rfl) rfl (h I7 x7 (IntKind.i64.wrap (x4 + 1)) A9 n5 u9 cl4 _ hf s kk hn3 rp4 e1 e2 e3)⟩
 have hf := iteF h2 hf
 refine WPK.condF (Eq.trans (b := .bool (decide (x4 < (p0.Pairs.length : Int)))) (by kernel_rfl) (bo_f h2)) ?_
 refine WPK.exit (blockQ.same ?_)
 refine WPK.seq ?_
 refine WPK.cut' (Kn fun D2 ds wz => ∀ X : Kont, (∀ (I8 : Nat → Prop) (x8 : (List Int)) (x9 : Int) (A10 : Option Addr) (n6 : Nat) (u10 : Nat) (cl5 : List Value) (w' : World), g30_j2 p0 x8 x9 = some r → St w1 M I8 ((.sl (.slice A10 n6 u10) 5 1 n6 cl5) :: (.blk b1 (.cells #[.bool p0.Leaf, .slice A1 p0.Pairs.length u1, .slice A2 p0.Keys.length u2, .slice A3 p0.Kids.length u3] 26 (0, 0))) :: F) w' → Kp I w I8 w' → n6 = x8.length → RepL (Rp.int .u8) I8 w' cl5 x8 → Elems rp_T_api_Pair I8 w' A1 p0.Pairs → Elems (Rp.slice (Rp.int .u8)) I8 w' A2 p0.Keys → Elems (Rp.int .i64) I8 w' A3 p0.Kids → X [(gd D2 0), .pointer (some ⟨b1, 0, none⟩), .int .i64 0, .slice none 0 0, .int .i64 0, (gd D2 5), .slice A10 n6 u10, .int .i64 x9, (gd D2 8), (gd D2 9), undef, undef, (gd D2 12), (gd D2 13), (gd D2 14), (gd D2 15), (gd D2 16), (gd D2 17), (gd D2 18), (gd D2 19), (gd D2 20), (gd D2 21), (gd D2 22), (gd D2 23), (gd D2 24), (gd D2 25), (gd D2 26), (gd D2 27), (gd D2 28), (gd D2 29), (gd D2 30), (gd D2 31), (gd D2 32), (gd D2 33), (gd D2 34), (gd D2 35), (gd D2 36), (gd D2 37), (gd D2 38), (gd D2 39), (gd D2 40), (gd D2 41), (gd D2 42), (gd D2 43), (gd D2 44), (gd D2 45), undef, undef, undef, undef, undef, undef, undef, undef, undef, undef, undef, undef, undef, undef, undef, undef, undef, undef, undef, undef, undef, undef, undef, undef, undef, undef] [] w') → X D2 ds wz) ?_ ?_
 intro X6 hX6
 refine fun D2 _ _ hJ => hJ X6 ?_
 clear s
 intro I8 x8 x9 A10 n6 u10 cl5 w12 hf s kk hn4 rp5 e1 e2 e3
 refine hX6 _ _ _ ?_
 unfold g30_j2 at hf
 refine WPK.seq ?_
 refine WPK.seq ?_
 refine WPK.region ?_
 refine RW.seg hT 4 [.slice A2 p0.Keys.length u2] [] [.pointer (some ⟨b1, 2, none⟩), .slice A2 p0.Keys.length u2, .int .i64 (p0.Keys.length : Int), .int .i64 0] [.cell ⟨b1, 2, none⟩ (.slice A2 p0.Keys.length u2)] (by kernel_rfl) (s.cell (i := 1) (off := 2) rfl rfl) ?_
 refine RW.nil ?_
 refine WPK.block ?_
 refine WPK.loop' (J := fun n7 D3 ds wz => ∀ X : Kont, (∀ (I9 : Nat → Prop) (x10 : (List Int)) (x11 : Int) (A11 : Option Addr) (n8 : Nat) (u11 : Nat) (cl6 : List Value) (w' : World), g30_l3 p0 x9 n7 x10 x11 = some r → St w1 M I9 ((.sl (.slice A11 n8 u11) 5 1 n8 cl6) :: (.blk b1 (.cells #[.bool p0.Leaf, .slice A1 p0.Pairs.length u1, .slice A2 p0.Keys.length u2, .slice A3 p0.Kids.length u3] 26 (0, 0))) :: F) w' → Kp I w I9 w' → n8 = x10.length → RepL (Rp.int .u8) I9 w' cl6 x10 → Elems (Rp.slice (Rp.int .u8)) I9 w' A2 p0.Keys → Elems rp_T_api_Pair I9 w' A1 p0.Pairs → Elems (Rp.int .i64) I9 w' A3 p0.Kids → X [(gd D3 0), .pointer (some ⟨b1, 0, none⟩), .int .i64 0, .slice none 0 0, .int .i64 0, (gd D3 5), .slice A11 n8 u11, .int .i64 x9, (gd D3 8), (gd D3 9), (gd D3 10), (gd D3 11), (gd D3 12), (gd D3 13), (gd D3 14), (gd D3 15), (gd D3 16), (gd D3 17), (gd D3 18), (gd D3 19), (gd D3 20), (gd D3 21), (gd D3 22), (gd D3 23), (gd D3 24), (gd D3 25), (gd D3 26), (gd D3 27), (gd D3 28), (gd D3 29), (gd D3 30), (gd D3 31), (gd D3 32), (gd D3 33), (gd D3 34), (gd D3 35), (gd D3 36), (gd D3 37), (gd D3 38), (gd D3 39), (gd D3 40), (gd D3 41), (gd D3 42), (gd D3 43), (gd D3 44), (gd D3 45), (gd D3 46), .slice A2 p0.Keys.length u2, .int .i64 (p0.Keys.length : Int), .int .i64 x11, (gd D3 50), (gd D3 51), (gd D3 52), (gd D3 53), (gd D3 54), (gd D3 55), (gd D3 56), (gd D3 57), (gd D3 58), (gd D3 59), (gd D3 60), (gd D3 61), (gd D3 62), (gd D3 63), (gd D3 64), (gd D3 65), undef, undef, undef, undef, undef, undef] [] w') → X D3 ds wz) FUEL (fun X h => kc (by kernel_rfl) rfl (h I8 x8 0 A10 n6 u10 cl5 _ hf s kk hn4 rp5 e2 e1 e3)) (fun _ _ _ hJ => hJ (fun _ _ _ => False) (by intro I9 x10 x11 A11 n8 u11 cl6 w13 hf s kk hn5 rp6 e2 e1 e3; exact noneS hf)) ?_
 intro X7 hX7
 refine fun n7 D3 _ _ hJ => hJ (X7 n7) ?_
 clear s
 intro I9 x10 x11 A11 n8 u11 cl6 w13 hf s kk hn5 rp6 e2 e1 e3
 refine hX7 _ _ _ _ ?_
 replace hf : g30_l3B p0 x9 (g30_l3 p0 x9 n7) x10 x11 = some r := hf
 generalize hrec2 : g30_l3 p0 x9 n7 = rec2 at hf
 unfold g30_l3B at hf
 refine WPK.seq ?_
 refine WPK.region ?_
 refine RW.seg hT 1 [] [] [.bool (decide (x11 < (p0.Keys.length : Int)))] [] (by kernel_rfl) (trivial) ?_
 refine RW.nil ?_
 refine WPK.seq ?_
 by_cases h4 : x11 < (p0.Keys.length : Int)
 have hf := iteT h4 hf
 refine WPK.condT (Eq.trans (b := .bool (decide (x11 < (p0.Keys.length : Int)))) (by kernel_rfl) (bo_t h4)) ?_
 refine WPK.skip ?_
 refine WPK.seq ?_
 refine WPK.block ?_
 refine WPK.seq ?_
 refine WPK.region ?_
 obtain ⟨x12, hx6, hf⟩ := bindS hf
 obtain ⟨h5, hx6⟩ := getS hx6
 obtain ⟨b5, o2, rfl⟩ := Elems.opn e2 hx6
 obtain ⟨cs4, hr4, ha2⟩ := Elems.get e2 hx6
 obtain ⟨A12, u12, rfl, q5, q6, e8⟩ := hr4
 have hc10 := And.intro q5 q6
 refine RW.seg hT 5 [.slice A12 x12.length u12] [] [.int .i64 x11, .pointer (some ⟨b5, o2 + x11.toNat * 1, none⟩), .slice A12 x12.length u12, .int .i64 x11, .slice A12 x12.length u12] [.idx x11 p0.Keys.length, .cell ⟨b5, o2 + x11.toNat * 1, none⟩ (.slice A12 x12.length u12)] (by kernel_rfl) (⟨h5, ha2 0 _ rfl⟩) ?_
 refine RW.nil ?_
 have e8S2 := e8
 have e2S2 := e2
 have e1S2 := e1
 have e3S2 := e3
 have rp6S2 := rp6
 have kS2 : Kp I9 w13 I9 w13 := Kp.refl
 refine WPK.drawM (fun w' => ∃ I' : Nat → Prop, St w1 M I' ((.sl (.slice A11 n8 u11) 5 1 n8 cl6) :: (.blk b1 (.cells #[.bool p0.Leaf, .slice A1 p0.Pairs.length u1, .slice (some ⟨b5, o2, none⟩) p0.Keys.length u2, .slice A3 p0.Kids.length u3] 26 (0, 0))) :: F) w' ∧ Kp I9 w13 I' w') 12 [0, 0, 3, 0, 8, 0, 32, 120, 248, 504, 1023, 2047] (by kernel_rfl) (by kernel_rfl) ?_
 intro ht2 w14 hd2
 have k12 := Kp.dr s hd2
 replace s := s.dr hd2
 replace e8 := e8.st k12
 replace e2 := e2.st k12
 replace e1 := e1.st k12
 replace e3 := e3.st k12
 replace rp6 := rp6.st k12
 replace kk := kk.trans k12
 replace kS2 := kS2.trans k12
 obtain ⟨x13, hx7, hf⟩ := bindS hf
 obtain ⟨h6, hx7⟩ := getS hx7
 obtain ⟨b6, o3, rfl⟩ := Elems.opn e3 hx7
 obtain ⟨cs5, hr5, ha3, hb1⟩ := Elems.getI e3S2 hx7
 obtain rfl : cs5 = [.int .i64 x13] := hr5
 refine RD.segM hT ht2 (by kernel_rfl) [0, 1, 3, 4, 5, 6, 7, 8, 9] [.slice (some ⟨b6, o3, none⟩) p0.Kids.length u3, .int .i64 x13, undef] [] [.slice A11 n8 u11, .slice A12 x12.length u12, .pointer (some ⟨b1, 3, none⟩), .slice (some ⟨b6, o3, none⟩) p0.Kids.length u3, .int .i64 x11, .int .i64 (IntKind.i64.wrap (x11 + 1)), .pointer (some ⟨b6, o3 + (IntKind.i64.wrap (x11 + 1)).toNat * 1, none⟩), .int .i64 x13, .int .u16 (IntKind.u16.wrap x13)] [.cell ⟨b1, 3, none⟩ (.slice (some ⟨b6, o3, none⟩) p0.Kids.length u3), .idx (IntKind.i64.wrap (x11 + 1)) p0.Kids.length, .cell ⟨b6, o3 + (IntKind.i64.wrap (x11 + 1)).toNat * 1, none⟩ (.int .i64 x13)] (by kernel_rfl) (by rintro w' ⟨I', s, k⟩; have e8 := e8S2.st k; have e2 := e2S2.st k; have e1 := e1S2.st k; have e3 := e3S2.st k; have rp6 := rp6S2.st k; have ha3 := ha3.st k hb1; exact ⟨s.cell (i := 1) (off := 3) rfl rfl, h6, ha3 0 _ rfl⟩) ⟨_, s.pick [0, 1] 2 rfl, kS2⟩ ?_
 have sa3 := s
 obtain ⟨hc11, e9⟩ := St.lend s (i := 0) rfl hn5 rp6
 have k13 := Kp.shut (I := I9) (w := w14) (p := .sl (.slice A11 n8 u11) 5 1 n8 cl6)
 replace s := s.shut 0 rfl
 obtain ⟨x14, hx8, hf⟩ := bindS hf
 have hc12 := c67 (F := (.blk b1 (.cells #[.bool p0.Leaf, .slice A1 p0.Pairs.length u1, .slice (some ⟨b5, o2, none⟩) p0.Keys.length u2, .slice (some ⟨b6, o3, none⟩) p0.Kids.length u3] 26 (0, 0))) :: F) x10 x12 A11 u11 A12 u12 hc11 e9 hc10 (e8.st k13) s hx8
 rw [← hn5] at hc12
 refine RD.op (i := 2) rfl (by kernel_rfl) (by kernel_rfl) (OK.call' en67 (by kernel_rfl) (hc12) ?_)
 intro X8 hX8
 refine fun _ _ hJ => hJ X8 ?_
 clear s
 intro I10 A13 n9 u13 cl7 w15 s k14 hn6 rp7
 refine hX8 _ _ ?_
 have s' := St.back sa3 (i := 0) rfl s k14
 replace k14 := Kp.back sa3 (i := 0) rfl k14
 replace s := s'; clear s'
 obtain ⟨I11, s, k14⟩ : ∃ I : Nat → Prop, St w1 M I ((.sl (.slice A11 n8 u11) 5 1 n8 cl6) :: (.sl (.slice A13 n9 u13) 5 1 n9 cl7) :: (.blk b1 (.cells #[.bool p0.Leaf, .slice A1 p0.Pairs.length u1, .slice (some ⟨b5, o2, none⟩) p0.Keys.length u2, .slice (some ⟨b6, o3, none⟩) p0.Kids.length u3] 26 (0, 0))) :: F) w15 ∧ Kp _ _ I _ := ⟨_, s, k14⟩
 replace rp7 := RepL.free (I' := I11) (w' := w15) free_int rp7
 replace e8 := e8.st k14
 replace e2 := e2.st k14
 replace e3 := e3.st k14
 replace e1 := e1.st k14
 replace rp6 := rp6.st k14
 replace kk := kk.trans k14
 replace kS2 := kS2.trans k14
 refine ⟨fun _ => ⟨_, s.pick [0, 2] 3 rfl, kS2⟩, RD.fold ?_⟩
 have sa4 := s
 obtain ⟨hc13, e10⟩ := St.lend s (i := 1) rfl hn6 rp7
 have k15 := Kp.shut (I := I11) (w := w15) (p := .sl (.slice A13 n9 u13) 5 1 n9 cl7)
 replace s := s.shut 1 rfl
 obtain ⟨x15, hx9, hf⟩ := bindS hf
 have hc14 := c68 (F := (.sl (.slice A11 n8 u11) 5 1 n8 cl6) :: (.blk b1 (.cells #[.bool p0.Leaf, .slice A1 p0.Pairs.length u1, .slice (some ⟨b5, o2, none⟩) p0.Keys.length u2, .slice (some ⟨b6, o3, none⟩) p0.Kids.length u3] 26 (0, 0))) :: F) x14 (IntKind.u16.wrap x13) A13 u13 hc13 e10 s hx9
 rw [← hn6] at hc14
 refine RD.op (i := 10) rfl (by kernel_rfl) (by kernel_rfl) (OK.call' en68 (by kernel_rfl) (hc14) ?_)
 intro X9 hX9
 refine fun _ _ hJ => hJ X9 ?_
 clear s
 intro I12 A14 n10 u14 cl8 w16 s k16 hn7 rp8
 refine hX9 _ _ ?_
 have s' := St.back sa4 (i := 1) rfl s k16
 replace k16 := Kp.back sa4 (i := 1) rfl k16
 replace s := s'; clear s'
 obtain ⟨I13, s, k16⟩ : ∃ I : Nat → Prop, St w1 M I ((.sl (.slice A13 n9 u13) 5 1 n9 cl7) :: (.sl (.slice A14 n10 u14) 5 1 n10 cl8) :: (.sl (.slice A11 n8 u11) 5 1 n8 cl6) :: (.blk b1 (.cells #[.bool p0.Leaf, .slice A1 p0.Pairs.length u1, .slice (some ⟨b5, o2, none⟩) p0.Keys.length u2, .slice (some ⟨b6, o3, none⟩) p0.Kids.length u3] 26 (0, 0))) :: F) w16 ∧ Kp _ _ I _ := ⟨_, s, k16⟩
 replace rp8 := RepL.free (I' := I13) (w' := w16) free_int rp8
 replace e8 := e8.st k16
 replace e2 := e2.st k16
 replace e3 := e3.st k16
 replace e1 := e1.st k16
 replace rp6 := rp6.st k16
 replace rp7 := rp7.st k16
 replace kk := kk.trans k16
 replace kS2 := kS2.trans k16
 refine ⟨fun _ => ⟨_, s.pick [2, 3] 4 rfl, kS2⟩, RD.fold ?_⟩
 refine RD.segM hT ht2 (by kernel_rfl) [11] [] [] [.slice A14 n10 u14] [] (by kernel_rfl) (fun _ _ => trivial) ⟨_, s.pick [2, 3] 4 rfl, kS2⟩ ?_
 refine RD.done (by kernel_rfl) ?_
 refine WPK.region ?_
 refine RW.seg hT 2 [] [] [.int .i64 (IntKind.i64.wrap (x11 + 1)), .int .i64 (IntKind.i64.wrap (x11 + 1))] [] (by kernel_rfl) (trivial) ?_
 refine RW.nil ?_
 subst hrec2
 replace s := s.pick [1, 3] 4 rfl
 exact ⟨n7, Nat.le_refl _, fun X h => kc (by kernel_rfl) rfl (h I13 x15 (IntKind.i64.wrap (x11 + 1)) A14 n10 u14 cl8 _ hf s kk hn7 rp8 e2 e1 e3)⟩
 have hf := iteF h4 hf
 refine WPK.condF (Eq.trans (b := .bool (decide (x11 < (p0.Keys.length : Int)))) (by kernel_rfl) (bo_f h4)) ?_
 refine WPK.exit (blockQ.same ?_)
 refine WPK.seq ?_
 refine WPK.region ?_
 refine RW.seg hT 5 [] [(69, .int .i64 (x10.length : Int))] [.int .i64 x9, .slice A11 n8 u11, .slice A11 n8 u11, .int .i64 (x10.length : Int), .int .i64 (IntKind.i64.wrap (240 - (x10.length : Int)))] [.veq (.int .i64 (n8 : Nat)) (.int .i64 (x10.length : Int))] (by kernel_rfl) (len_v hn5) ?_
 obtain ⟨x16, hx10, hf⟩ := bindS hf
 refine RW.op (by kernel_rfl) (OK.appZ hT (r := (Rp.int .u8)) (i := 0) (t := 27) (tn := 3) (e := 5) (bytes := 1) (c := u11) (n := n8) (x := 0) (kn := .i64) s (by kernel_rfl) rfl rfl rfl rfl rfl rfl rfl rfl rfl rfl hn5 rp6 flat_int (fun _ _ => rfl) hx10 ?_)
 clear s
 rintro A15 u15 cl9 w17 s k17 rp9
 replace e2 := e2.st k17
 replace e1 := e1.st k17
 replace e3 := e3.st k17
 replace rp6 := rp6.st k17
 replace kk := kk.trans k17
 refine RW.seg hT 3 [] [] [.int .i64 x9, .slice A15 x16.length u15, .int .i64 0] [] (by kernel_rfl) (trivial) ?_
 refine RW.nil ?_
 refine WPK.ret (?_)
 obtain rfl := someS hf
 refine Fin.of (rs := [.tmp 2, .tmp 3, .tmp 4]) hT [] (.tuple #[.int .i64 x9, .slice A15 x16.length u15, .int .i64 0]) [] rfl (by kernel_rfl) (trivial) ?_
 replace s := s.pick [0] 2 rfl
 exact fun X h => vc rfl (h I9 A15 x16.length u15 cl9 _ s kk rfl rp9)
 refine WPK.seq ?_
 refine WPK.region ?_
 refine RW.seg hT 3 [.bool p0.Leaf] [(38, .bool (decide (¬ (p0.Leaf = true))))] [.pointer (some ⟨b1, 0, none⟩), .bool p0.Leaf, .bool (decide (¬ (p0.Leaf = true)))] [.cell ⟨b1, 0, none⟩ (.bool p0.Leaf), .veq (.bool (!p0.Leaf)) (.bool (decide (¬ (p0.Leaf = true))))] (by kernel_rfl) (⟨s.cell (i := 1) (off := 0) rfl rfl, not_b⟩) ?_
 refine RW.nil ?_
 by_cases h7 : ¬ (p0.Leaf = true)
 have hf := iteT h7 hf
 refine WPK.condT (Eq.trans (b := .bool (decide (¬ (p0.Leaf = true)))) (by kernel_rfl) (bo_t h7)) ?_
 refine WPK.seq ?_
 refine WPK.region ?_
 refine RW.seg hT 1 [] [] [.int .i64 4] [] (by kernel_rfl) (trivial) ?_
 refine RW.nil ?_
 refine WPK.region ?_
 obtain ⟨x17, hx11, hf⟩ := bindS hf
 obtain ⟨h8, hx11⟩ := getS hx11
 obtain ⟨b7, o4, rfl⟩ := Elems.opn e3 hx11
 obtain ⟨cs6, hr6, ha4⟩ := Elems.get e3 hx11
 obtain rfl : cs6 = [.int .i64 x17] := hr6
 refine RW.seg hT 6 [.slice (some ⟨b7, o4, none⟩) p0.Kids.length u3, .int .i64 x17, undef] [] [.slice A5 n3 u5, .pointer (some ⟨b1, 3, none⟩), .slice (some ⟨b7, o4, none⟩) p0.Kids.length u3, .pointer (some ⟨b7, o4 + (0 : Int).toNat * 1, none⟩), .int .i64 x17, .int .u16 (IntKind.u16.wrap x17)] [.cell ⟨b1, 3, none⟩ (.slice (some ⟨b7, o4, none⟩) p0.Kids.length u3), .idx 0 p0.Kids.length, .cell ⟨b7, o4 + (0 : Int).toNat * 1, none⟩ (.int .i64 x17)] (by kernel_rfl) (⟨s.cell (i := 1) (off := 3) rfl rfl, h8, ha4 0 _ rfl⟩) ?_
 have sa5 := s
 obtain ⟨hc15, e11⟩ := St.lend s (i := 0) rfl hn1 rp2
 have k18 := Kp.shut (I := I3) (w := w6) (p := .sl (.slice A5 n3 u5) 5 1 n3 cl2)
 replace s := s.shut 0 rfl
 obtain ⟨x18, hx12, hf⟩ := bindS hf
 have hc16 := c68 (F := (.blk b1 (.cells #[.bool p0.Leaf, .slice A1 p0.Pairs.length u1, .slice A2 p0.Keys.length u2, .slice (some ⟨b7, o4, none⟩) p0.Kids.length u3] 26 (0, 0))) :: F) x3 (IntKind.u16.wrap x17) A5 u5 hc15 e11 s hx12
 rw [← hn1] at hc16
 refine RW.op (by kernel_rfl) (OK.call' en68 (by kernel_rfl) (hc16) ?_)
 intro X10 hX10
 refine fun _ _ hJ => hJ X10 ?_
 clear s
 intro I14 A16 n11 u16 cl10 w18 s k19 hn8 rp10
 refine hX10 _ _ ?_
 have s' := St.back sa5 (i := 0) rfl s k19
 replace k19 := Kp.back sa5 (i := 0) rfl k19
 replace s := s'; clear s'
 obtain ⟨I15, s, k19⟩ : ∃ I : Nat → Prop, St w1 M I ((.sl (.slice A5 n3 u5) 5 1 n3 cl2) :: (.sl (.slice A16 n11 u16) 5 1 n11 cl10) :: (.blk b1 (.cells #[.bool p0.Leaf, .slice A1 p0.Pairs.length u1, .slice A2 p0.Keys.length u2, .slice (some ⟨b7, o4, none⟩) p0.Kids.length u3] 26 (0, 0))) :: F) w18 ∧ Kp _ _ I _ := ⟨_, s, k19⟩
 replace rp10 := RepL.free (I' := I15) (w' := w18) free_int rp10
 replace e1 := e1.st k19
 replace e3 := e3.st k19
 replace e2 := e2.st k19
 replace rp2 := rp2.st k19
 replace kk := kk.trans k19
 refine RW.seg hT 1 [] [] [.slice A16 n11 u16] [] (by kernel_rfl) (trivial) ?_
 refine RW.nil ?_
 replace s := s.pick [1, 2] 3 rfl
 exact fun X h => kc (by kernel_rfl) rfl (h I15 x18 4 A16 n11 u16 cl10 _ hf s kk hn8 rp10 e1 e2 e3)
 have hf := iteF h7 hf
 refine WPK.condF (Eq.trans (b := .bool (decide (¬ (p0.Leaf = true)))) (by kernel_rfl) (bo_f h7)) ?_
 refine WPK.skip ?_
 exact fun X h => kc (by kernel_rfl) rfl (h I3 x3 3 A5 n3 u5 cl2 _ hf s kk hn1 rp2 e1 e2 e3)
theorem c34 {w1 w : World} {M I : Nat → Prop} {F : List It} (p0 : (List Int)) (p1 : (List Int)) (A1 : Option Addr) (u1 : Nat) (A2 : Option Addr) (u2 : Nat) (hc1 : (p0.length ≤ u1 ∧ u1 ≤ 9223372036854775807)) (e1 : Elems (Rp.int .u8) I w A1 p0) (hc2 : (p1.length ≤ u2 ∧ u2 ≤ 9223372036854775807)) (e2 : Elems (Rp.int .u8) I w A2 p1) (s : St w1 M I (F) w) {r : Bool} (hf : g34 p0 p1 = some r) :
   Ret Try.prog 34 [.slice A1 p0.length u1, .slice A2 p1.length u2] w fun v wz => ∀ X : Value → World → Prop, (∀ (I' : Nat → Prop) (w' : World), St w1 M I' (F) w' → Kp I w I' w' → X (.bool r) w') → X v wz := by
 have kk : Kp I w I w := Kp.refl
 unfold g34 at hf
 refine Ret.of Try.func34 rfl ?_
 refine WPK.seq ?_
 refine WPK.region ?_
 refine RW.seg hT 1 [] [] [.bool false] [] (by kernel_rfl) (trivial) ?_
 refine RW.nil ?_
 refine WPK.seq ?_
 refine WPK.region ?_
 refine RW.seg hT 6 [.string (strOfNums p0), .string (strOfNums p1)] [(9, .bool (decide ((strOfNums p0).toList = (strOfNums p1).toList)))] [.slice A1 p0.length u1, .string (strOfNums p0), .slice A2 p1.length u2, .string (strOfNums p1), .bool (decide ((strOfNums p0).toList = (strOfNums p1).toList)), .bool (decide ((strOfNums p0).toList = (strOfNums p1).toList))] [.bytes A1 p0.length (strOfNums p0), .bytes A2 p1.length (strOfNums p1), .veq (.bool ((strOfNums p0).toList == (strOfNums p1).toList)) (.bool (decide ((strOfNums p0).toList = (strOfNums p1).toList)))] (by kernel_rfl) (⟨Elems.bytes e1, Elems.bytes e2, beq_v⟩) ?_
 refine RW.nil ?_
 refine WPK.ret (?_)
 obtain rfl := someS hf
 refine Fin.of (rs := [.tmp 4]) hT [] (.bool (decide ((strOfNums p0).toList = (strOfNums p1).toList))) [] rfl (by kernel_rfl) (trivial) ?_
 exact fun X h => vc rfl (h I _ s kk)
theorem c51 {w1 w : World} {M I : Nat → Prop} {F : List It} (p0 : T_api_Node) (p1 : (List Int)) (p2 : Bool) (A1 : Option Addr) (u1 : Nat) (A2 : Option Addr) (u2 : Nat) (A3 : Option Addr) (u3 : Nat) (A4 : Option Addr) (u4 : Nat) (hc1 : (p0.Pairs.length ≤ u1 ∧ u1 ≤ 9223372036854775807)) (e1 : Elems rp_T_api_Pair I w A1 p0.Pairs) (hc2 : (p0.Keys.length ≤ u2 ∧ u2 ≤ 9223372036854775807)) (e2 : Elems (Rp.slice (Rp.int .u8)) I w A2 p0.Keys) (hc3 : (p0.Kids.length ≤ u3 ∧ u3 ≤ 9223372036854775807)) (e3 : Elems (Rp.int .i64) I w A3 p0.Kids) (hc4 : (p1.length ≤ u4 ∧ u4 ≤ 9223372036854775807)) (e4 : Elems (Rp.int .u8) I w A4 p1) (s : St w1 M I (F) w) {r : Int} (hf : g51 p0 p1 p2 = some r) :
   Ret Try.prog 51 [.agg #[.bool p0.Leaf, .slice A1 p0.Pairs.length u1, .slice A2 p0.Keys.length u2, .slice A3 p0.Kids.length u3], .slice A4 p1.length u4, .bool p2] w fun v wz => ∀ X : Value → World → Prop, (∀ (I' : Nat → Prop) (w' : World), St w1 M I' (F) w' → Kp I w I' w' → X (.int .i64 r) w') → X v wz := by
 have kk : Kp I w I w := Kp.refl
 unfold g51 at hf
 refine Ret.of Try.func51 rfl ?_
 refine WPK.seq ?_
 refine WPK.region ?_
 refine RW.op (by kernel_rfl) (OK.new hT (f := fun b => .pointer (some ⟨b, 0, none⟩)) (cs := [.bool p0.Leaf, .slice A1 p0.Pairs.length u1, .slice A2 p0.Keys.length u2, .slice A3 p0.Kids.length u3]) (e := 26) (c := .tt) s (by kernel_rfl) trivial ?_)
 clear s
 rintro w2 b1 s k1 -
 replace e1 := e1.st k1
 replace e2 := e2.st k1
 replace e3 := e3.st k1
 replace e4 := e4.st k1
 replace kk := kk.trans k1
 refine RW.op (by kernel_rfl) (OK.new hT (f := fun b => .pointer (some ⟨b, 0, none⟩)) (cs := [.slice A4 p1.length u4]) (e := 27) (c := .tt) s (by kernel_rfl) trivial ?_)
 clear s
 rintro w3 b2 s k2 -
 replace e1 := e1.st k2
 replace e2 := e2.st k2
 replace e3 := e3.st k2
 replace e4 := e4.st k2
 replace kk := kk.trans k2
 refine RW.op (by kernel_rfl) (OK.new hT (f := fun b => .pointer (some ⟨b, 0, none⟩)) (cs := [.bool p2]) (e := 4) (c := .tt) s (by kernel_rfl) trivial ?_)
 clear s
 rintro w4 b3 s k3 -
 replace e1 := e1.st k3
 replace e2 := e2.st k3
 replace e3 := e3.st k3
 replace e4 := e4.st k3
 replace kk := kk.trans k3
 refine RW.seg hT 1 [] [] [.int .i64 0] [] (by kernel_rfl) (trivial) ?_
 refine RW.nil ?_
 refine WPK.scope ?_
 refine WPK.seq ?_
 refine WPK.region ?_
 refine RW.op (by kernel_rfl) (OK.new hT (f := fun b => .pointer (some ⟨b, 0, none⟩)) (cs := [.int .i64 0]) (e := 3) (c := .tt) s (by kernel_rfl) trivial ?_)
 clear s
 rintro w5 b4 s k4 -
 replace e1 := e1.st k4
 replace e2 := e2.st k4
 replace e3 := e3.st k4
 replace e4 := e4.st k4
 replace kk := kk.trans k4
 refine RW.op (by kernel_rfl) (OK.store hT (i := 0) (b := b4) (off := 0) (n := 1) (vs := [.int .i64 0]) (cs := [.int .i64 0]) (e := 3) s (by kernel_rfl) rfl rfl (flat_ok rfl) (Nat.le_of_ble_eq_true rfl) ?_)
 clear s
 rintro w6 s k5 -
 replace e1 := e1.st k5
 replace e2 := e2.st k5
 replace e3 := e3.st k5
 replace e4 := e4.st k5
 replace kk := kk.trans k5
 refine RW.nil ?_
 refine WPK.seq ?_
 refine WPK.label ?_
 refine WPK.seq ?_
 refine WPK.cut' (Kn fun D1 ds wz => ∀ X : Kont, (∀ (I1 : Nat → Prop) (x1 : Int) (d1 : Nat) (w' : World), g51_j1 x1 = some r → St w1 M I1 ((.blk b4 (.cells #[.int .i64 x1] 3 (0, 0))) :: (.blk d1 (.deferred (some []))) :: F) w' → Kp I w I1 w' → X [(gd D1 0), (gd D1 1), (gd D1 2), (gd D1 3), (gd D1 4), (gd D1 5), .int .i64 0, .pointer (some ⟨b4, 0, none⟩), (gd D1 8), (gd D1 9), (gd D1 10), (gd D1 11), (gd D1 12), (gd D1 13), (gd D1 14), (gd D1 15), (gd D1 16), (gd D1 17), (gd D1 18), (gd D1 19), (gd D1 20), (gd D1 21), (gd D1 22), (gd D1 23), (gd D1 24), (gd D1 25), undef] [mk d1] w') → X D1 ds wz) ?_ ?_
 intro X1 hX1
 refine fun D1 _ _ hJ => hJ X1 ?_
 clear s
 intro I1 x1 d1 w7 hf s kk
 refine hX1 _ _ _ ?_
 unfold g51_j1 at hf
 refine WPK.seq ?_
 refine WPK.region ?_
 refine RW.seg hT 2 [.int .i64 x1] [] [.int .i64 x1, .int .i64 x1] [.cell ⟨b4, 0, none⟩ (.int .i64 x1)] (by kernel_rfl) (s.cell (i := 0) (off := 0) rfl rfl) ?_
 refine RW.nil ?_
 refine WPK.ret (scopeQ.ret (?_))
 obtain rfl := someS hf
 refine Fin.mark (i := 1) s rfl ?_
 clear s
 intro w8 s k6
 replace kk := kk.trans k6
 refine Fin.of (rs := [.tmp 6]) hT [] (.int .i64 x1) [] rfl (by kernel_rfl) (trivial) ?_
 replace s := s.pick [] 1 rfl
 exact fun X h => vc rfl (h I1 _ s kk)
 refine WPK.seq ?_
 refine WPK.region ?_
 refine RW.seg hT 1 [.agg #[.bool p0.Leaf, .slice A1 p0.Pairs.length u1, .slice A2 p0.Keys.length u2, .slice A3 p0.Kids.length u3]] [] [.agg #[.bool p0.Leaf, .slice A1 p0.Pairs.length u1, .slice A2 p0.Keys.length u2, .slice A3 p0.Kids.length u3]] [.cells ⟨b1, 0, none⟩ [.bool p0.Leaf, .slice A1 p0.Pairs.length u1, .slice A2 p0.Keys.length u2, .slice A3 p0.Kids.length u3] 4] (by kernel_rfl) (s.cells (i := 3) rfl rfl rfl) ?_
 refine RW.op (by kernel_rfl) (OK.inl (args := [.agg #[.bool p0.Leaf, .slice A1 p0.Pairs.length u1, .slice A2 p0.Keys.length u2, .slice A3 p0.Kids.length u3]]) en89 (by kernel_rfl) ?_)
 intro R1 hR1
 refine Ret.of Try.func89 rfl ?_
 refine WPK.seq ?_
 refine WPK.region ?_
 refine RW.op (by kernel_rfl) (OK.new hT (f := fun b => .pointer (some ⟨b, 0, none⟩)) (cs := [.bool p0.Leaf, .slice A1 p0.Pairs.length u1, .slice A2 p0.Keys.length u2, .slice A3 p0.Kids.length u3]) (e := 26) (c := .tt) s (by kernel_rfl) trivial ?_)
 clear s
 rintro w9 b5 s k7 -
 replace e1 := e1.st k7
 replace e2 := e2.st k7
 replace e3 := e3.st k7
 replace e4 := e4.st k7
 replace kk := kk.trans k7
 refine RW.seg hT 1 [] [] [.nilFunc] [] (by kernel_rfl) (trivial) ?_
 refine RW.nil ?_
 refine WPK.seq ?_
 refine WPK.region ?_
 refine RW.seg hT 2 [] [] [.func (.func 108) #[] #[.pointer (some ⟨b5, 0, none⟩)], .func (.func 108) #[] #[.pointer (some ⟨b5, 0, none⟩)]] [] (by kernel_rfl) (trivial) ?_
 refine RW.nil ?_
 refine WPK.ret (?_)
 refine Fin.of (rs := [.tmp 2]) hT [] (.func (.func 108) #[] #[.pointer (some ⟨b5, 0, none⟩)]) [] rfl (by kernel_rfl) (trivial) ?_
 refine hR1 _ _ ?_
 refine RW.nil ?_
 refine WPK.block ?_
 refine WPK.range (gf := 108) (first := []) (cap := [.pointer (some ⟨b5, 0, none⟩)]) s (by kernel_rfl) en108 ?_
 clear s
 intro l1 d2 rec1 w10 R2 hrec1 s k8 hR2
 replace e1 := e1.st k8
 replace e2 := e2.st k8
 replace e3 := e3.st k8
 replace e4 := e4.st k8
 replace kk := kk.trans k8
 refine Ret.of Try.func108 rfl ?_
 refine WPK.seq ?_
 refine WPK.seq ?_
 refine WPK.region ?_
 refine RW.seg hT 4 [.slice A1 p0.Pairs.length u1] [] [.pointer (some ⟨b5, 1, none⟩), .slice A1 p0.Pairs.length u1, .int .i64 (p0.Pairs.length : Int), .int .i64 0] [.cell ⟨b5, 1, none⟩ (.slice A1 p0.Pairs.length u1)] (by kernel_rfl) (s.cell (i := 2) (off := 1) rfl rfl) ?_
 refine RW.nil ?_
 refine WPK.block ?_
 replace s := s.pick [0, 1, 2, 3, 4, 5] 7 rfl
 refine WPK.loop' (J := fun n1 D2 ds wz => ∀ X : Kont, (∀ (I2 : Nat → Prop) (x2 : Int) (x3 : Int) (w' : World), g51_l2 p0 p1 p2 n1 x2 x3 = some r → St w1 M I2 ((.blk l1 (rec1 .ready none)) :: (.blk d2 (.deferred (some []))) :: (.blk b5 (.cells #[.bool p0.Leaf, .slice A1 p0.Pairs.length u1, .slice A2 p0.Keys.length u2, .slice A3 p0.Kids.length u3] 26 (0, 0))) :: (.blk b4 (.cells #[.int .i64 x3] 3 (0, 0))) :: (.blk b3 (.cells #[.bool p2] 4 (0, 0))) :: (.blk b2 (.cells #[.slice A4 p1.length u4] 27 (0, 0))) :: F) w' → Kp I w I2 w' → Elems rp_T_api_Pair I2 w' A1 p0.Pairs → Elems (Rp.slice (Rp.int .u8)) I2 w' A2 p0.Keys → Elems (Rp.int .i64) I2 w' A3 p0.Kids → Elems (Rp.int .u8) I2 w' A4 p1 → X [.func (.yield l1) #[] #[], .pointer (some ⟨b5, 0, none⟩), (gd D2 2), (gd D2 3), (gd D2 4), (gd D2 5), undef, (gd D2 7), .slice A1 p0.Pairs.length u1, .int .i64 (p0.Pairs.length : Int), .int .i64 x2, (gd D2 11), (gd D2 12), (gd D2 13), (gd D2 14), (gd D2 15), (gd D2 16), (gd D2 17), (gd D2 18), (gd D2 19), undef, undef, undef, undef, undef, undef, undef, undef, undef, undef, undef, undef] [] w') → X D2 ds wz) FUEL (fun X h => kc (by kernel_rfl) rfl (h I 0 0 _ hf s kk e1 e2 e3 e4)) (fun _ _ _ hJ => hJ (fun _ _ _ => False) (by intro I2 x2 x3 w11 hf s kk e1 e2 e3 e4; exact noneS hf)) ?_
 intro X2 hX2
 refine fun n1 D2 _ _ hJ => hJ (X2 n1) ?_
 clear s
 intro I2 x2 x3 w11 hf s kk e1 e2 e3 e4
 refine hX2 _ _ _ _ ?_
 replace hf : g51_l2B p0 p1 p2 (g51_l2 p0 p1 p2 n1) x2 x3 = some r := hf
 generalize hrec2 : g51_l2 p0 p1 p2 n1 = rec2 at hf
 unfold g51_l2B at hf
 refine WPK.seq ?_
 refine WPK.region ?_
 refine RW.seg hT 1 [] [] [.bool (decide (x2 < (p0.Pairs.length : Int)))] [] (by kernel_rfl) (trivial) ?_
 refine RW.nil ?_
 refine WPK.seq ?_
 by_cases h1 : x2 < (p0.Pairs.length : Int)
 have hf := iteT h1 hf
 refine WPK.condT (Eq.trans (b := .bool (decide (x2 < (p0.Pairs.length : Int)))) (by kernel_rfl) (bo_t h1)) ?_
 refine WPK.skip ?_
 refine WPK.seq ?_
 refine WPK.block ?_
 refine WPK.seq ?_
 refine WPK.region ?_
 obtain ⟨x4, hx1, hf⟩ := bindS hf
 obtain ⟨h2, hx1⟩ := getS hx1
 obtain ⟨b6, o1, rfl⟩ := Elems.opn e1 hx1
 obtain ⟨cs1, hr1, ha1⟩ := Elems.get e1 hx1
 obtain ⟨cs2, cs3, rfl, hr2, hr3⟩ := hr1
 obtain ⟨A5, u5, rfl, q1, q2, e5⟩ := hr2
 have hc5 := And.intro q1 q2
 obtain ⟨A6, u6, rfl, q3, q4, e6⟩ := hr3
 have hc6 := And.intro q3 q4
 refine RW.seg hT 2 [.agg #[.slice A5 x4.Key.length u5, .slice A6 x4.Val.length u6]] [] [.pointer (some ⟨b6, o1 + x2.toNat * 2, none⟩), .agg #[.slice A5 x4.Key.length u5, .slice A6 x4.Val.length u6]] [.idx x2 p0.Pairs.length, .cells ⟨b6, o1 + x2.toNat * 2, none⟩ [.slice A5 x4.Key.length u5, .slice A6 x4.Val.length u6] 2] (by kernel_rfl) (⟨h2, at_cells ha1 (off := 0) rfl rfl⟩) ?_
 refine RW.op (by kernel_rfl) (OK.new hT (f := fun b => .pointer (some ⟨b, 0, none⟩)) (cs := [.slice none 0 0, .slice none 0 0]) (e := 48) (c := .tt) s (by kernel_rfl) trivial ?_)
 clear s
 rintro w12 b7 s k9 -
 replace e1 := e1.st k9
 replace e5 := e5.st k9
 replace e6 := e6.st k9
 replace e2 := e2.st k9
 replace e3 := e3.st k9
 replace e4 := e4.st k9
 replace kk := kk.trans k9
 refine RW.op (by kernel_rfl) (OK.store hT (i := 0) (b := b7) (off := 0) (n := 2) (vs := [.slice A5 x4.Key.length u5, .slice A6 x4.Val.length u6]) (cs := [.slice none 0 0, .slice none 0 0]) (e := 48) s (by kernel_rfl) rfl rfl (flat_ok rfl) (Nat.le_of_ble_eq_true rfl) ?_)
 clear s
 rintro w13 s k10 -
 replace e1 := e1.st k10
 replace e5 := e5.st k10
 replace e6 := e6.st k10
 replace e2 := e2.st k10
 replace e3 := e3.st k10
 replace e4 := e4.st k10
 replace kk := kk.trans k10
 refine RW.nil ?_
 refine WPK.seq ?_
 refine WPK.region ?_
 refine RW.seg hT 3 [.slice A5 x4.Key.length u5] [] [.func (.yield l1) #[] #[], .pointer (some ⟨b7, 0, none⟩), .slice A5 x4.Key.length u5] [.cell ⟨b7, 0, none⟩ (.slice A5 x4.Key.length u5)] (by kernel_rfl) (s.cell (i := 0) (off := 0) rfl rfl) ?_
 refine RW.op (by kernel_rfl) (OK.yield (args := [.slice A5 x4.Key.length u5]) hrec1 s (i := 1) rfl (by kernel_rfl) rfl ?_)
 intro R3 hR3
 refine WPK.region ?_
 refine RW.seg hT 1 [] [] [.slice A5 x4.Key.length u5] [] (by kernel_rfl) (trivial) ?_
 refine RW.nil ?_
 refine RoundBeg.of hrec1 s (i := 1) rfl ?_
 clear s
 intro w14 s k11
 replace e5 := e5.st k11
 replace e1 := e1.st k11
 replace e6 := e6.st k11
 replace e2 := e2.st k11
 replace e3 := e3.st k11
 replace e4 := e4.st k11
 replace kk := kk.trans k11
 refine WPK.block ?_
 refine WPK.seq ?_
 refine WPK.seq ?_
 refine WPK.region ?_
 refine RW.seg hT 2 [.slice A4 p1.length u4] [] [.slice A5 x4.Key.length u5, .slice A4 p1.length u4] [.cell ⟨b2, 0, none⟩ (.slice A4 p1.length u4)] (by kernel_rfl) (s.cell (i := 6) (off := 0) rfl rfl) ?_
 obtain ⟨x5, hx2, hf⟩ := bindS hf
 refine RW.op (by kernel_rfl) (OK.call' en15 (by kernel_rfl) (c15 (F := (.blk b7 (.cells #[.slice A5 x4.Key.length u5, .slice A6 x4.Val.length u6] 48 (0, 0))) :: (.blk l1 (rec1 .busy none)) :: (.blk d2 (.deferred (some []))) :: (.blk b5 (.cells #[.bool p0.Leaf, .slice (some ⟨b6, o1, none⟩) p0.Pairs.length u1, .slice A2 p0.Keys.length u2, .slice A3 p0.Kids.length u3] 26 (0, 0))) :: (.blk b4 (.cells #[.int .i64 x3] 3 (0, 0))) :: (.blk b3 (.cells #[.bool p2] 4 (0, 0))) :: (.blk b2 (.cells #[.slice A4 p1.length u4] 27 (0, 0))) :: F) x4.Key p1 A5 u5 A4 u4 hc5 e5 hc4 e4 s hx2) ?_)
 intro X3 hX3
 refine fun _ _ hJ => hJ X3 ?_
 clear s
 intro I3 w15 s k12
 refine hX3 _ _ ?_
 replace e5 := e5.st k12
 replace e4 := e4.st k12
 replace e1 := e1.st k12
 replace e6 := e6.st k12
 replace e2 := e2.st k12
 replace e3 := e3.st k12
 replace kk := kk.trans k12
 refine RW.seg hT 1 [] [] [.int .i64 x5] [] (by kernel_rfl) (trivial) ?_
 refine RW.nil ?_
 refine WPK.block ?_
 refine WPK.seq ?_
 refine WPK.seq ?_
 refine WPK.region ?_
 refine RW.seg hT 3 [] [] [.int .i64 x5, .bool (decide (x5 < 0)), .bool (decide (x5 < 0))] [] (by kernel_rfl) (trivial) ?_
 refine RW.nil ?_
 by_cases h3 : x5 < 0
 have hf := iteT h3 hf
 refine WPK.condT (Eq.trans (b := .bool (decide (x5 < 0))) (by kernel_rfl) (bo_t h3)) ?_
 refine WPK.skip ?_
 by_cases h4 : x5 < 0
 have hf := iteT h4 hf
 refine WPK.condT (Eq.trans (b := .bool (decide (x5 < 0))) (by kernel_rfl) (bo_t h4)) ?_
 refine WPK.seq ?_
 refine WPK.region ?_
 refine RW.seg hT 2 [.int .i64 x3] [] [.int .i64 x3, .int .i64 (IntKind.i64.wrap (x3 + 1))] [.cell ⟨b4, 0, none⟩ (.int .i64 x3)] (by kernel_rfl) (s.cell (i := 4) (off := 0) rfl rfl) ?_
 refine RW.op (by kernel_rfl) (OK.store hT (i := 4) (b := b4) (off := 0) (n := 1) (vs := [.int .i64 (IntKind.i64.wrap (x3 + 1))]) (cs := [.int .i64 x3]) (e := 3) s (by kernel_rfl) rfl rfl (flat_ok rfl) (Nat.le_of_ble_eq_true rfl) ?_)
 clear s
 rintro w16 s k13 -
 replace e5 := e5.st k13
 replace e4 := e4.st k13
 replace e1 := e1.st k13
 replace e6 := e6.st k13
 replace e2 := e2.st k13
 replace e3 := e3.st k13
 replace kk := kk.trans k13
 refine RW.nil ?_
 refine WPK.exit (blockQ.other rfl (blockQ.same ?_))
 refine RoundEnd.next hrec1 s (i := 1) rfl ?_
 clear s
 intro w17 s k14
 replace e5 := e5.st k14
 replace e4 := e4.st k14
 replace e1 := e1.st k14
 replace e6 := e6.st k14
 replace e2 := e2.st k14
 replace e3 := e3.st k14
 replace kk := kk.trans k14
 refine hR3 _ _ ?_
 refine RW.seg hT 1 [] [] [.bool false] [] (by kernel_rfl) (trivial) ?_
 refine RW.nil ?_
 refine WPK.condF (by kernel_rfl) ?_
 refine WPK.skip ?_
 refine WPK.region ?_
 refine RW.seg hT 2 [] [] [.int .i64 (IntKind.i64.wrap (x2 + 1)), .int .i64 (IntKind.i64.wrap (x2 + 1))] [] (by kernel_rfl) (trivial) ?_
 refine RW.nil ?_
 subst hrec2
 replace s := s.pick [1, 2, 3, 4, 5, 6] 7 rfl
 exact ⟨n1, Nat.le_refl _, fun X h => kc (by kernel_rfl) rfl (h I3 (IntKind.i64.wrap (x2 + 1)) (IntKind.i64.wrap (x3 + 1)) _ hf s kk e1 e2 e3 e4)⟩
 have hf := iteF h4 hf
 refine WPK.condF (Eq.trans (b := .bool (decide (x5 < 0))) (by kernel_rfl) (bo_f h4)) ?_
 refine WPK.skip ?_
 refine WPK.exit (blockQ.other rfl (?_))
 refine RoundEnd.stop (Code.exit 0) hrec1 s (i := 1) rfl ?_
 clear s
 intro w18 s k15
 replace e5 := e5.st k15
 replace e4 := e4.st k15
 replace e1 := e1.st k15
 replace e6 := e6.st k15
 replace e2 := e2.st k15
 replace e3 := e3.st k15
 replace kk := kk.trans k15
 refine hR3 _ _ ?_
 refine RW.seg hT 1 [] [] [.bool true] [] (by kernel_rfl) (trivial) ?_
 refine RW.nil ?_
 refine WPK.condT (by kernel_rfl) ?_
 refine WPK.ret (blockQ.ret (blockQ.ret (?_)))
 refine Fin.of (rs := []) hT [] (.tuple #[]) [] rfl (by kernel_rfl) (trivial) ?_
 refine hR2 _ _ (RangeEnd.jump hrec1 s (i := 1) rfl ?_)
 clear s
 intro w19 s k16
 replace e5 := e5.st k16
 replace e6 := e6.st k16
 replace e1 := e1.st k16
 replace e2 := e2.st k16
 replace e3 := e3.st k16
 replace e4 := e4.st k16
 replace kk := kk.trans k16
 refine WPK.exit (blockQ.same ?_)
 replace s := s.pick [3, 1] 6 rfl
 exact fun X h => kc (by kernel_rfl) rfl (h I3 x3 d2 _ hf s kk)
 have hf := iteF h3 hf
 refine WPK.condF (Eq.trans (b := .bool (decide (x5 < 0))) (by kernel_rfl) (bo_f h3)) ?_
 refine WPK.region ?_
 refine RW.seg hT 2 [] [(20, .bool (decide (x5 = 0)))] [.int .i64 x5, .bool (decide (x5 = 0))] [.veq (.bool (x5 == 0)) (.bool (decide (x5 = 0)))] (by kernel_rfl) (eq_v) ?_
 by_cases h5 : x5 = 0
 have hf := iteT h5 hf
 refine RW.seg hT 4 [.bool p2] [(21, .bool true)] [.bool true, .bool p2, .bool p2, .bool p2] [.veq (.bool (decide (x5 = 0))) (.bool true), .cell ⟨b3, 0, none⟩ (.bool p2)] (by kernel_rfl) (⟨bo_t h5, s.cell (i := 5) (off := 0) rfl rfl⟩) ?_
 refine RW.nil ?_
 by_cases h6 : p2 = true
 have hf := iteT h6 hf
 refine WPK.condT (Eq.trans (b := .bool p2) (by kernel_rfl) (b_t h6)) ?_
 refine WPK.seq ?_
 refine WPK.region ?_
 refine RW.seg hT 2 [.int .i64 x3] [] [.int .i64 x3, .int .i64 (IntKind.i64.wrap (x3 + 1))] [.cell ⟨b4, 0, none⟩ (.int .i64 x3)] (by kernel_rfl) (s.cell (i := 4) (off := 0) rfl rfl) ?_
 refine RW.op (by kernel_rfl) (OK.store hT (i := 4) (b := b4) (off := 0) (n := 1) (vs := [.int .i64 (IntKind.i64.wrap (x3 + 1))]) (cs := [.int .i64 x3]) (e := 3) s (by kernel_rfl) rfl rfl (flat_ok rfl) (Nat.le_of_ble_eq_true rfl) ?_)
 clear s
 rintro w20 s k17 -
 replace e5 := e5.st k17
 replace e4 := e4.st k17
 replace e1 := e1.st k17
 replace e6 := e6.st k17
 replace e2 := e2.st k17
 replace e3 := e3.st k17
 replace kk := kk.trans k17
 refine RW.nil ?_
 refine WPK.exit (blockQ.other rfl (blockQ.same ?_))
 refine RoundEnd.next hrec1 s (i := 1) rfl ?_
 clear s
 intro w21 s k18
 replace e5 := e5.st k18
 replace e4 := e4.st k18
 replace e1 := e1.st k18
 replace e6 := e6.st k18
 replace e2 := e2.st k18
 replace e3 := e3.st k18
 replace kk := kk.trans k18
 refine hR3 _ _ ?_
 refine RW.seg hT 1 [] [] [.bool false] [] (by kernel_rfl) (trivial) ?_
 refine RW.nil ?_
 refine WPK.condF (by kernel_rfl) ?_
 refine WPK.skip ?_
 refine WPK.region ?_
 refine RW.seg hT 2 [] [] [.int .i64 (IntKind.i64.wrap (x2 + 1)), .int .i64 (IntKind.i64.wrap (x2 + 1))] [] (by kernel_rfl) (trivial) ?_
 refine RW.nil ?_
 subst hrec2
 replace s := s.pick [1, 2, 3, 4, 5, 6] 7 rfl
 exact ⟨n1, Nat.le_refl _, fun X h => kc (by kernel_rfl) rfl (h I3 (IntKind.i64.wrap (x2 + 1)) (IntKind.i64.wrap (x3 + 1)) _ hf s kk e1 e2 e3 e4)⟩
 have hf := iteF h6 hf
 refine WPK.condF (Eq.trans (b := .bool p2) (by kernel_rfl) (b_f h6)) ?_
 refine WPK.skip ?_
 refine WPK.exit (blockQ.other rfl (?_))
 refine RoundEnd.stop (Code.exit 0) hrec1 s (i := 1) rfl ?_
 clear s
 intro w22 s k19
 replace e5 := e5.st k19
 replace e4 := e4.st k19
 replace e1 := e1.st k19
 replace e6 := e6.st k19
 replace e2 := e2.st k19
 replace e3 := e3.st k19
 replace kk := kk.trans k19
 refine hR3 _ _ ?_
 refine RW.seg hT 1 [] [] [.bool true] [] (by kernel_rfl) (trivial) ?_
 refine RW.nil ?_
 refine WPK.condT (by kernel_rfl) ?_
 refine WPK.ret (blockQ.ret (blockQ.ret (?_)))
 refine Fin.of (rs := []) hT [] (.tuple #[]) [] rfl (by kernel_rfl) (trivial) ?_
 refine hR2 _ _ (RangeEnd.jump hrec1 s (i := 1) rfl ?_)
 clear s
 intro w23 s k20
 replace e5 := e5.st k20
 replace e6 := e6.st k20
 replace e1 := e1.st k20
 replace e2 := e2.st k20
 replace e3 := e3.st k20
 replace e4 := e4.st k20
 replace kk := kk.trans k20
 refine WPK.exit (blockQ.same ?_)
 replace s := s.pick [3, 1] 6 rfl
 exact fun X h => kc (by kernel_rfl) rfl (h I3 x3 d2 _ hf s kk)
 have hf := iteF h5 hf
 refine RW.seg hT 4 [] [(21, .bool false)] [.bool false, undef, .bool false, .bool false] [.veq (.bool (decide (x5 = 0))) (.bool false)] (by kernel_rfl) (bo_f h5) ?_
 refine RW.nil ?_
 refine WPK.condF (by kernel_rfl) ?_
 refine WPK.skip ?_
 refine WPK.exit (blockQ.other rfl (?_))
 refine RoundEnd.stop (Code.exit 0) hrec1 s (i := 1) rfl ?_
 clear s
 intro w24 s k21
 replace e5 := e5.st k21
 replace e4 := e4.st k21
 replace e1 := e1.st k21
 replace e6 := e6.st k21
 replace e2 := e2.st k21
 replace e3 := e3.st k21
 replace kk := kk.trans k21
 refine hR3 _ _ ?_
 refine RW.seg hT 1 [] [] [.bool true] [] (by kernel_rfl) (trivial) ?_
 refine RW.nil ?_
 refine WPK.condT (by kernel_rfl) ?_
 refine WPK.ret (blockQ.ret (blockQ.ret (?_)))
 refine Fin.of (rs := []) hT [] (.tuple #[]) [] rfl (by kernel_rfl) (trivial) ?_
 refine hR2 _ _ (RangeEnd.jump hrec1 s (i := 1) rfl ?_)
 clear s
 intro w25 s k22
 replace e5 := e5.st k22
 replace e6 := e6.st k22
 replace e1 := e1.st k22
 replace e2 := e2.st k22
 replace e3 := e3.st k22
 replace e4 := e4.st k22
 replace kk := kk.trans k22
 refine WPK.exit (blockQ.same ?_)
 replace s := s.pick [3, 1] 6 rfl
 exact fun X h => kc (by kernel_rfl) rfl (h I3 x3 d2 _ hf s kk)
 have hf := iteF h1 hf
 refine WPK.condF (Eq.trans (b := .bool (decide (x2 < (p0.Pairs.length : Int)))) (by kernel_rfl) (bo_f h1)) ?_
 refine WPK.exit (blockQ.same ?_)
 refine WPK.seq ?_
 refine WPK.region ?_
 refine RW.seg hT 4 [.slice A2 p0.Keys.length u2] [] [.pointer (some ⟨b5, 2, none⟩), .slice A2 p0.Keys.length u2, .int .i64 (p0.Keys.length : Int), .int .i64 0] [.cell ⟨b5, 2, none⟩ (.slice A2 p0.Keys.length u2)] (by kernel_rfl) (s.cell (i := 2) (off := 2) rfl rfl) ?_
 refine RW.nil ?_
 refine WPK.block ?_
 replace s := s.pick [0, 1, 3, 4, 5] 6 rfl
 refine WPK.loop' (J := fun n2 D3 ds wz => ∀ X : Kont, (∀ (I4 : Nat → Prop) (x6 : Int) (x7 : Int) (w' : World), g51_l3 p0 p1 p2 n2 x6 x7 = some r → St w1 M I4 ((.blk l1 (rec1 .ready none)) :: (.blk d2 (.deferred (some []))) :: (.blk b4 (.cells #[.int .i64 x7] 3 (0, 0))) :: (.blk b3 (.cells #[.bool p2] 4 (0, 0))) :: (.blk b2 (.cells #[.slice A4 p1.length u4] 27 (0, 0))) :: F) w' → Kp I w I4 w' → Elems (Rp.slice (Rp.int .u8)) I4 w' A2 p0.Keys → Elems (Rp.int .u8) I4 w' A4 p1 → X [.func (.yield l1) #[] #[], (gd D3 1), (gd D3 2), (gd D3 3), (gd D3 4), (gd D3 5), (gd D3 6), (gd D3 7), (gd D3 8), (gd D3 9), (gd D3 10), (gd D3 11), (gd D3 12), (gd D3 13), (gd D3 14), (gd D3 15), (gd D3 16), (gd D3 17), (gd D3 18), (gd D3 19), (gd D3 20), .slice A2 p0.Keys.length u2, .int .i64 (p0.Keys.length : Int), .int .i64 x6, (gd D3 24), (gd D3 25), (gd D3 26), (gd D3 27), (gd D3 28), (gd D3 29), (gd D3 30), (gd D3 31)] [] w') → X D3 ds wz) FUEL (fun X h => kc (by kernel_rfl) rfl (h I2 0 x3 _ hf s kk e2 e4)) (fun _ _ _ hJ => hJ (fun _ _ _ => False) (by intro I4 x6 x7 w26 hf s kk e2 e4; exact noneS hf)) ?_
 intro X4 hX4
 refine fun n2 D3 _ _ hJ => hJ (X4 n2) ?_
 clear s
 intro I4 x6 x7 w26 hf s kk e2 e4
 refine hX4 _ _ _ _ ?_
 replace hf : g51_l3B p0 p1 p2 (g51_l3 p0 p1 p2 n2) x6 x7 = some r := hf
 generalize hrec3 : g51_l3 p0 p1 p2 n2 = rec3 at hf
 unfold g51_l3B at hf
 refine WPK.seq ?_
 refine WPK.region ?_
 refine RW.seg hT 1 [] [] [.bool (decide (x6 < (p0.Keys.length : Int)))] [] (by kernel_rfl) (trivial) ?_
 refine RW.nil ?_
 refine WPK.seq ?_
 by_cases h7 : x6 < (p0.Keys.length : Int)
 have hf := iteT h7 hf
 refine WPK.condT (Eq.trans (b := .bool (decide (x6 < (p0.Keys.length : Int)))) (by kernel_rfl) (bo_t h7)) ?_
 refine WPK.skip ?_
 refine WPK.seq ?_
 refine WPK.block ?_
 refine WPK.seq ?_
 refine WPK.region ?_
 obtain ⟨x8, hx3, hf⟩ := bindS hf
 obtain ⟨h8, hx3⟩ := getS hx3
 obtain ⟨b8, o2, rfl⟩ := Elems.opn e2 hx3
 obtain ⟨cs4, hr4, ha2⟩ := Elems.get e2 hx3
 obtain ⟨A7, u7, rfl, q5, q6, e7⟩ := hr4
 have hc7 := And.intro q5 q6
 refine RW.seg hT 3 [.slice A7 x8.length u7] [] [.pointer (some ⟨b8, o2 + x6.toNat * 1, none⟩), .slice A7 x8.length u7, .slice A7 x8.length u7] [.idx x6 p0.Keys.length, .cell ⟨b8, o2 + x6.toNat * 1, none⟩ (.slice A7 x8.length u7)] (by kernel_rfl) (⟨h8, ha2 0 _ rfl⟩) ?_
 refine RW.nil ?_
 refine WPK.seq ?_
 refine WPK.region ?_
 refine RW.seg hT 2 [] [] [.func (.yield l1) #[] #[], .slice A7 x8.length u7] [] (by kernel_rfl) (trivial) ?_
 refine RW.op (by kernel_rfl) (OK.yield (args := [.slice A7 x8.length u7]) hrec1 s (i := 0) rfl (by kernel_rfl) rfl ?_)
 intro R4 hR4
 refine WPK.region ?_
 refine RW.seg hT 1 [] [] [.slice A7 x8.length u7] [] (by kernel_rfl) (trivial) ?_
 refine RW.nil ?_
 refine RoundBeg.of hrec1 s (i := 0) rfl ?_
 clear s
 intro w27 s k23
 replace e7 := e7.st k23
 replace e2 := e2.st k23
 replace e4 := e4.st k23
 replace kk := kk.trans k23
 refine WPK.block ?_
 refine WPK.seq ?_
 refine WPK.seq ?_
 refine WPK.region ?_
 refine RW.seg hT 2 [.slice A4 p1.length u4] [] [.slice A7 x8.length u7, .slice A4 p1.length u4] [.cell ⟨b2, 0, none⟩ (.slice A4 p1.length u4)] (by kernel_rfl) (s.cell (i := 4) (off := 0) rfl rfl) ?_
 obtain ⟨x9, hx4, hf⟩ := bindS hf
 refine RW.op (by kernel_rfl) (OK.call' en15 (by kernel_rfl) (c15 (F := (.blk l1 (rec1 .busy none)) :: (.blk d2 (.deferred (some []))) :: (.blk b4 (.cells #[.int .i64 x7] 3 (0, 0))) :: (.blk b3 (.cells #[.bool p2] 4 (0, 0))) :: (.blk b2 (.cells #[.slice A4 p1.length u4] 27 (0, 0))) :: F) x8 p1 A7 u7 A4 u4 hc7 e7 hc4 e4 s hx4) ?_)
 intro X5 hX5
 refine fun _ _ hJ => hJ X5 ?_
 clear s
 intro I5 w28 s k24
 refine hX5 _ _ ?_
 replace e7 := e7.st k24
 replace e4 := e4.st k24
 replace e2 := e2.st k24
 replace kk := kk.trans k24
 refine RW.seg hT 1 [] [] [.int .i64 x9] [] (by kernel_rfl) (trivial) ?_
 refine RW.nil ?_
 refine WPK.block ?_
 refine WPK.seq ?_
 refine WPK.seq ?_
 refine WPK.region ?_
 refine RW.seg hT 3 [] [] [.int .i64 x9, .bool (decide (x9 < 0)), .bool (decide (x9 < 0))] [] (by kernel_rfl) (trivial) ?_
 refine RW.nil ?_
 by_cases h9 : x9 < 0
 have hf := iteT h9 hf
 refine WPK.condT (Eq.trans (b := .bool (decide (x9 < 0))) (by kernel_rfl) (bo_t h9)) ?_
 refine WPK.skip ?_
 by_cases h10 : x9 < 0
 have hf := iteT h10 hf
 refine WPK.condT (Eq.trans (b := .bool (decide (x9 < 0))) (by kernel_rfl) (bo_t h10)) ?_
 refine WPK.seq ?_
 refine WPK.region ?_
 refine RW.seg hT 2 [.int .i64 x7] [] [.int .i64 x7, .int .i64 (IntKind.i64.wrap (x7 + 1))] [.cell ⟨b4, 0, none⟩ (.int .i64 x7)] (by kernel_rfl) (s.cell (i := 2) (off := 0) rfl rfl) ?_
 refine RW.op (by kernel_rfl) (OK.store hT (i := 2) (b := b4) (off := 0) (n := 1) (vs := [.int .i64 (IntKind.i64.wrap (x7 + 1))]) (cs := [.int .i64 x7]) (e := 3) s (by kernel_rfl) rfl rfl (flat_ok rfl) (Nat.le_of_ble_eq_true rfl) ?_)
 clear s
 rintro w29 s k25 -
 replace e7 := e7.st k25
 replace e4 := e4.st k25
 replace e2 := e2.st k25
 replace kk := kk.trans k25
 refine RW.nil ?_
 refine WPK.exit (blockQ.other rfl (blockQ.same ?_))
 refine RoundEnd.next hrec1 s (i := 0) rfl ?_
 clear s
 intro w30 s k26
 replace e7 := e7.st k26
 replace e4 := e4.st k26
 replace e2 := e2.st k26
 replace kk := kk.trans k26
 refine hR4 _ _ ?_
 refine RW.seg hT 1 [] [] [.bool false] [] (by kernel_rfl) (trivial) ?_
 refine RW.nil ?_
 refine WPK.condF (by kernel_rfl) ?_
 refine WPK.skip ?_
 refine WPK.region ?_
 refine RW.seg hT 2 [] [] [.int .i64 (IntKind.i64.wrap (x6 + 1)), .int .i64 (IntKind.i64.wrap (x6 + 1))] [] (by kernel_rfl) (trivial) ?_
 refine RW.nil ?_
 subst hrec3
 exact ⟨n2, Nat.le_refl _, fun X h => kc (by kernel_rfl) rfl (h I5 (IntKind.i64.wrap (x6 + 1)) (IntKind.i64.wrap (x7 + 1)) _ hf s kk e2 e4)⟩
 have hf := iteF h10 hf
 refine WPK.condF (Eq.trans (b := .bool (decide (x9 < 0))) (by kernel_rfl) (bo_f h10)) ?_
 refine WPK.skip ?_
 refine WPK.exit (blockQ.other rfl (?_))
 refine RoundEnd.stop (Code.exit 0) hrec1 s (i := 0) rfl ?_
 clear s
 intro w31 s k27
 replace e7 := e7.st k27
 replace e4 := e4.st k27
 replace e2 := e2.st k27
 replace kk := kk.trans k27
 refine hR4 _ _ ?_
 refine RW.seg hT 1 [] [] [.bool true] [] (by kernel_rfl) (trivial) ?_
 refine RW.nil ?_
 refine WPK.condT (by kernel_rfl) ?_
 refine WPK.ret (blockQ.ret (blockQ.ret (?_)))
 refine Fin.of (rs := []) hT [] (.tuple #[]) [] rfl (by kernel_rfl) (trivial) ?_
 refine hR2 _ _ (RangeEnd.jump hrec1 s (i := 0) rfl ?_)
 clear s
 intro w32 s k28
 replace e4 := e4.st k28
 replace kk := kk.trans k28
 refine WPK.exit (blockQ.same ?_)
 replace s := s.pick [1, 0] 4 rfl
 exact fun X h => kc (by kernel_rfl) rfl (h I5 x7 d2 _ hf s kk)
 have hf := iteF h9 hf
 refine WPK.condF (Eq.trans (b := .bool (decide (x9 < 0))) (by kernel_rfl) (bo_f h9)) ?_
 refine WPK.region ?_
 refine RW.seg hT 2 [] [(20, .bool (decide (x9 = 0)))] [.int .i64 x9, .bool (decide (x9 = 0))] [.veq (.bool (x9 == 0)) (.bool (decide (x9 = 0)))] (by kernel_rfl) (eq_v) ?_
 by_cases h11 : x9 = 0
 have hf := iteT h11 hf
 refine RW.seg hT 4 [.bool p2] [(21, .bool true)] [.bool true, .bool p2, .bool p2, .bool p2] [.veq (.bool (decide (x9 = 0))) (.bool true), .cell ⟨b3, 0, none⟩ (.bool p2)] (by kernel_rfl) (⟨bo_t h11, s.cell (i := 3) (off := 0) rfl rfl⟩) ?_
 refine RW.nil ?_
 by_cases h12 : p2 = true
 have hf := iteT h12 hf
 refine WPK.condT (Eq.trans (b := .bool p2) (by kernel_rfl) (b_t h12)) ?_
 refine WPK.seq ?_
 refine WPK.region ?_
 refine RW.seg hT 2 [.int .i64 x7] [] [.int .i64 x7, .int .i64 (IntKind.i64.wrap (x7 + 1))] [.cell ⟨b4, 0, none⟩ (.int .i64 x7)] (by kernel_rfl) (s.cell (i := 2) (off := 0) rfl rfl) ?_
 refine RW.op (by kernel_rfl) (OK.store hT (i := 2) (b := b4) (off := 0) (n := 1) (vs := [.int .i64 (IntKind.i64.wrap (x7 + 1))]) (cs := [.int .i64 x7]) (e := 3) s (by kernel_rfl) rfl rfl (flat_ok rfl) (Nat.le_of_ble_eq_true rfl) ?_)
 clear s
 rintro w33 s k29 -
 replace e7 := e7.st k29
 replace e4 := e4.st k29
 replace e2 := e2.st k29
 replace kk := kk.trans k29
 refine RW.nil ?_
 refine WPK.exit (blockQ.other rfl (blockQ.same ?_))
 refine RoundEnd.next hrec1 s (i := 0) rfl ?_
 clear s
 intro w34 s k30
 replace e7 := e7.st k30
 replace e4 := e4.st k30
 replace e2 := e2.st k30
 replace kk := kk.trans k30
 refine hR4 _ _ ?_
 refine RW.seg hT 1 [] [] [.bool false] [] (by kernel_rfl) (trivial) ?_
 refine RW.nil ?_
 refine WPK.condF (by kernel_rfl) ?_
 refine WPK.skip ?_
 refine WPK.region ?_
 refine RW.seg hT 2 [] [] [.int .i64 (IntKind.i64.wrap (x6 + 1)), .int .i64 (IntKind.i64.wrap (x6 + 1))] [] (by kernel_rfl) (trivial) ?_
 refine RW.nil ?_
 subst hrec3
 exact ⟨n2, Nat.le_refl _, fun X h => kc (by kernel_rfl) rfl (h I5 (IntKind.i64.wrap (x6 + 1)) (IntKind.i64.wrap (x7 + 1)) _ hf s kk e2 e4)⟩
 have hf := iteF h12 hf
 refine WPK.condF (Eq.trans (b := .bool p2) (by kernel_rfl) (b_f h12)) ?_
 refine WPK.skip ?_
 refine WPK.exit (blockQ.other rfl (?_))
 refine RoundEnd.stop (Code.exit 0) hrec1 s (i := 0) rfl ?_
 clear s
 intro w35 s k31
 replace e7 := e7.st k31
 replace e4 := e4.st k31
 replace e2 := e2.st k31
 replace kk := kk.trans k31
 refine hR4 _ _ ?_
 refine RW.seg hT 1 [] [] [.bool true] [] (by kernel_rfl) (trivial) ?_
 refine RW.nil ?_
 refine WPK.condT (by kernel_rfl) ?_
 refine WPK.ret (blockQ.ret (blockQ.ret (?_)))
 refine Fin.of (rs := []) hT [] (.tuple #[]) [] rfl (by kernel_rfl) (trivial) ?_
 refine hR2 _ _ (RangeEnd.jump hrec1 s (i := 0) rfl ?_)
 clear s
 intro w36 s k32
 replace e4 := e4.st k32
 replace kk := kk.trans k32
 refine WPK.exit (blockQ.same ?_)
 replace s := s.pick [1, 0] 4 rfl
 exact fun X h => kc (by kernel_rfl) rfl (h I5 x7 d2 _ hf s kk)
 have hf := iteF h11 hf
 refine RW.seg hT 4 [] [(21, .bool false)] [.bool false, undef, .bool false, .bool false] [.veq (.bool (decide (x9 = 0))) (.bool false)] (by kernel_rfl) (bo_f h11) ?_
 refine RW.nil ?_
 refine WPK.condF (by kernel_rfl) ?_
 refine WPK.skip ?_
 refine WPK.exit (blockQ.other rfl (?_))
 refine RoundEnd.stop (Code.exit 0) hrec1 s (i := 0) rfl ?_
 clear s
 intro w37 s k33
 replace e7 := e7.st k33
 replace e4 := e4.st k33
 replace e2 := e2.st k33
 replace kk := kk.trans k33
 refine hR4 _ _ ?_
 refine RW.seg hT 1 [] [] [.bool true] [] (by kernel_rfl) (trivial) ?_
 refine RW.nil ?_
 refine WPK.condT (by kernel_rfl) ?_
 refine WPK.ret (blockQ.ret (blockQ.ret (?_)))
 refine Fin.of (rs := []) hT [] (.tuple #[]) [] rfl (by kernel_rfl) (trivial) ?_
 refine hR2 _ _ (RangeEnd.jump hrec1 s (i := 0) rfl ?_)
 clear s
 intro w38 s k34
 replace e4 := e4.st k34
 replace kk := kk.trans k34
 refine WPK.exit (blockQ.same ?_)
 replace s := s.pick [1, 0] 4 rfl
 exact fun X h => kc (by kernel_rfl) rfl (h I5 x7 d2 _ hf s kk)
 have hf := iteF h7 hf
 refine WPK.condF (Eq.trans (b := .bool (decide (x6 < (p0.Keys.length : Int)))) (by kernel_rfl) (bo_f h7)) ?_
 refine WPK.exit (blockQ.same ?_)
 refine Fin.of (rs := []) hT [] (.tuple #[]) [] rfl (by kernel_rfl) (trivial) ?_
 refine hR2 _ _ (RangeEnd.done hrec1 s (i := 0) rfl ?_)
 clear s
 intro w39 s k35
 replace e4 := e4.st k35
 replace kk := kk.trans k35
 replace s := s.pick [1, 0] 4 rfl
 exact fun X h => kc (by kernel_rfl) rfl (h I4 x7 d2 _ hf s kk)
theorem c13 {w1 w : World} {M I : Nat → Prop} {F : List It} (p0 : T_api_Node) (p1 : (List Int)) (A1 : Option Addr) (u1 : Nat) (A2 : Option Addr) (u2 : Nat) (A3 : Option Addr) (u3 : Nat) (A4 : Option Addr) (u4 : Nat) (hc1 : (p0.Pairs.length ≤ u1 ∧ u1 ≤ 9223372036854775807)) (e1 : Elems rp_T_api_Pair I w A1 p0.Pairs) (hc2 : (p0.Keys.length ≤ u2 ∧ u2 ≤ 9223372036854775807)) (e2 : Elems (Rp.slice (Rp.int .u8)) I w A2 p0.Keys) (hc3 : (p0.Kids.length ≤ u3 ∧ u3 ≤ 9223372036854775807)) (e3 : Elems (Rp.int .i64) I w A3 p0.Kids) (hc4 : (p1.length ≤ u4 ∧ u4 ≤ 9223372036854775807)) (e4 : Elems (Rp.int .u8) I w A4 p1) (s : St w1 M I (F) w) {r : Int} (hf : g13 p0 p1 = some r) :
   Ret Try.prog 13 [.agg #[.bool p0.Leaf, .slice A1 p0.Pairs.length u1, .slice A2 p0.Keys.length u2, .slice A3 p0.Kids.length u3], .slice A4 p1.length u4] w fun v wz => ∀ X : Value → World → Prop, (∀ (I' : Nat → Prop) (w' : World), St w1 M I' (F) w' → Kp I w I' w' → X (.int .i64 r) w') → X v wz := by
 have kk : Kp I w I w := Kp.refl
 unfold g13 at hf
 refine Ret.of Try.func13 rfl ?_
 refine WPK.seq ?_
 refine WPK.region ?_
 refine RW.op (by kernel_rfl) (OK.new hT (f := fun b => .pointer (some ⟨b, 0, none⟩)) (cs := [.bool p0.Leaf, .slice A1 p0.Pairs.length u1, .slice A2 p0.Keys.length u2, .slice A3 p0.Kids.length u3]) (e := 26) (c := .tt) s (by kernel_rfl) trivial ?_)
 clear s
 rintro w2 b1 s k1 -
 replace e1 := e1.st k1
 replace e2 := e2.st k1
 replace e3 := e3.st k1
 replace e4 := e4.st k1
 replace kk := kk.trans k1
 refine RW.seg hT 1 [] [] [.int .i64 0] [] (by kernel_rfl) (trivial) ?_
 refine RW.nil ?_
 refine WPK.seq ?_
 refine WPK.seq ?_
 refine WPK.region ?_
 refine RW.seg hT 1 [.agg #[.bool p0.Leaf, .slice A1 p0.Pairs.length u1, .slice A2 p0.Keys.length u2, .slice A3 p0.Kids.length u3]] [] [.agg #[.bool p0.Leaf, .slice A1 p0.Pairs.length u1, .slice A2 p0.Keys.length u2, .slice A3 p0.Kids.length u3]] [.cells ⟨b1, 0, none⟩ [.bool p0.Leaf, .slice A1 p0.Pairs.length u1, .slice A2 p0.Keys.length u2, .slice A3 p0.Kids.length u3] 4] (by kernel_rfl) (s.cells (i := 0) rfl rfl rfl) ?_
 obtain ⟨x1, hx1, hf⟩ := bindS hf
 refine RW.op (by kernel_rfl) (OK.call' en50 (by kernel_rfl) (c50 (F := (.blk b1 (.cells #[.bool p0.Leaf, .slice A1 p0.Pairs.length u1, .slice A2 p0.Keys.length u2, .slice A3 p0.Kids.length u3] 26 (0, 0))) :: F) p0 A1 u1 A2 u2 A3 u3 hc1 e1 hc2 e2 hc3 e3 s hx1) ?_)
 intro X1 hX1
 refine fun _ _ hJ => hJ X1 ?_
 clear s
 intro I1 w3 s k2
 refine hX1 _ _ ?_
 replace e1 := e1.st k2
 replace e2 := e2.st k2
 replace e3 := e3.st k2
 replace e4 := e4.st k2
 replace kk := kk.trans k2
 refine RW.seg hT 1 [] [(7, .bool (decide (¬ (x1 = true))))] [.bool (decide (¬ (x1 = true)))] [.veq (.bool (!x1)) (.bool (decide (¬ (x1 = true))))] (by kernel_rfl) (not_b) ?_
 by_cases h1 : ¬ (x1 = true)
 have hf := iteT h1 hf
 refine RW.seg hT 4 [] [(8, .bool true)] [.bool true, undef, undef, .bool true] [.veq (.bool (decide (¬ (x1 = true)))) (.bool true)] (by kernel_rfl) (bo_t h1) ?_
 refine RW.nil ?_
 refine WPK.condT (by kernel_rfl) ?_
 refine WPK.seq ?_
 refine WPK.region ?_
 refine RW.seg hT 1 [] [] [.int .i64 0] [] (by kernel_rfl) (trivial) ?_
 refine RW.nil ?_
 refine WPK.ret (?_)
 obtain rfl := someS hf
 refine Fin.of (rs := [.tmp 4]) hT [] (.int .i64 0) [] rfl (by kernel_rfl) (trivial) ?_
 replace s := s.pick [] 1 rfl
 exact fun X h => vc rfl (h I1 _ s kk)
 have hf := iteF h1 hf
 refine RW.seg hT 4 [.bool p0.Leaf] [(8, .bool false)] [.bool false, .pointer (some ⟨b1, 0, none⟩), .bool p0.Leaf, .bool p0.Leaf] [.veq (.bool (decide (¬ (x1 = true)))) (.bool false), .cell ⟨b1, 0, none⟩ (.bool p0.Leaf)] (by kernel_rfl) (⟨bo_f h1, s.cell (i := 0) (off := 0) rfl rfl⟩) ?_
 refine RW.nil ?_
 by_cases h2 : p0.Leaf = true
 have hf := iteT h2 hf
 refine WPK.condT (Eq.trans (b := .bool p0.Leaf) (by kernel_rfl) (b_t h2)) ?_
 refine WPK.seq ?_
 refine WPK.region ?_
 refine RW.seg hT 1 [] [] [.int .i64 0] [] (by kernel_rfl) (trivial) ?_
 refine RW.nil ?_
 refine WPK.ret (?_)
 obtain rfl := someS hf
 refine Fin.of (rs := [.tmp 4]) hT [] (.int .i64 0) [] rfl (by kernel_rfl) (trivial) ?_
 replace s := s.pick [] 1 rfl
 exact fun X h => vc rfl (h I1 _ s kk)
 have hf := iteF h2 hf
 refine WPK.condF (Eq.trans (b := .bool p0.Leaf) (by kernel_rfl) (b_f h2)) ?_
 refine WPK.skip ?_
 refine WPK.seq ?_
 refine WPK.region ?_
 refine RW.seg hT 2 [.agg #[.bool p0.Leaf, .slice A1 p0.Pairs.length u1, .slice A2 p0.Keys.length u2, .slice A3 p0.Kids.length u3]] [] [.agg #[.bool p0.Leaf, .slice A1 p0.Pairs.length u1, .slice A2 p0.Keys.length u2, .slice A3 p0.Kids.length u3], .slice A4 p1.length u4] [.cells ⟨b1, 0, none⟩ [.bool p0.Leaf, .slice A1 p0.Pairs.length u1, .slice A2 p0.Keys.length u2, .slice A3 p0.Kids.length u3] 4] (by kernel_rfl) (s.cells (i := 0) rfl rfl rfl) ?_
 obtain ⟨x2, hx2, hf⟩ := bindS hf
 refine RW.op (by kernel_rfl) (OK.call' en51 (by kernel_rfl) (c51 (F := (.blk b1 (.cells #[.bool p0.Leaf, .slice A1 p0.Pairs.length u1, .slice A2 p0.Keys.length u2, .slice A3 p0.Kids.length u3] 26 (0, 0))) :: F) p0 p1 true A1 u1 A2 u2 A3 u3 A4 u4 hc1 e1 hc2 e2 hc3 e3 hc4 e4 s hx2) ?_)
 intro X2 hX2
 refine fun _ _ hJ => hJ X2 ?_
 clear s
 intro I2 w4 s k3
 refine hX2 _ _ ?_
 replace e1 := e1.st k3
 replace e2 := e2.st k3
 replace e3 := e3.st k3
 replace e4 := e4.st k3
 replace kk := kk.trans k3
 refine RW.seg hT 1 [] [] [.int .i64 x2] [] (by kernel_rfl) (trivial) ?_
 refine RW.nil ?_
 refine WPK.ret (?_)
 obtain rfl := someS hf
 refine Fin.of (rs := [.tmp 4]) hT [] (.int .i64 x2) [] rfl (by kernel_rfl) (trivial) ?_
 replace s := s.pick [] 1 rfl
 exact fun X h => vc rfl (h I2 _ s kk)
theorem c11 {w1 w : World} {M I : Nat → Prop} {F : List It}  (s : St w1 M I (F) w) {r : Bool} (hf : g11 = some r) :
   Ret Try.prog 11 [] w fun v wz => ∀ X : Value → World → Prop, (∀ (I' : Nat → Prop) (w' : World), St w1 M I' (F) w' → Kp I w I' w' → X (.bool r) w') → X v wz := by
 have kk : Kp I w I w := Kp.refl
 unfold g11 at hf
 refine Ret.of Try.func11 rfl ?_
 refine WPK.seq ?_
 refine WPK.region ?_
 refine RW.seg hT 1 [] [] [.bool false] [] (by kernel_rfl) (trivial) ?_
 refine RW.nil ?_
 refine WPK.seq ?_
 refine WPK.region ?_
 refine RW.op (by kernel_rfl) (OK.new hT (f := fun b => .slice (some ⟨b, 0, none⟩) 1 1) (cs := [.int .u8 97]) (e := 5) (c := .tt) s (by kernel_rfl) trivial ?_)
 clear s
 rintro w2 b1 s k1 -
 replace kk := kk.trans k1
 have rp1 : RepL (Rp.int .u8) I w2 [.int .u8 97] ([97] : List Int) := RepL.cons (c := [.int .u8 97]) (d := []) (rfl) (RepL.nil)
 replace s : St w1 M I ((.sl (.slice (some ⟨b1, 0, none⟩) 1 1) 5 1 1 [.int .u8 97]) :: F) w2 := s.blkSl (i := 0) (n := 1) (c := 1) (size := 1) rfl rfl (Nat.le_refl _) (by decide)
 refine RW.op (by kernel_rfl) (OK.mark hT (t := 27) (eT := 5) (i := 0) (b := b1) (c := 1) (e := 5) (n := 1) (xs := ([97] : List Int)) s (by kernel_rfl) rfl rfl rfl rfl rfl rfl rp1 ?_)
 clear s
 rintro I1 w3 s k2 hc1 e1
 replace kk := kk.trans k2
 refine RW.op (by kernel_rfl) (OK.new hT (f := fun b => .slice (some ⟨b, 0, none⟩) 1 1) (cs := [.int .u8 7]) (e := 5) (c := .tt) s (by kernel_rfl) trivial ?_)
 clear s
 rintro w4 b2 s k3 -
 replace e1 := e1.st k3
 replace kk := kk.trans k3
 have rp2 : RepL (Rp.int .u8) I1 w4 [.int .u8 7] ([7] : List Int) := RepL.cons (c := [.int .u8 7]) (d := []) (rfl) (RepL.nil)
 replace s : St w1 M I1 ((.sl (.slice (some ⟨b2, 0, none⟩) 1 1) 5 1 1 [.int .u8 7]) :: F) w4 := s.blkSl (i := 0) (n := 1) (c := 1) (size := 1) rfl rfl (Nat.le_refl _) (by decide)
 refine RW.seg hT 1 [] [] [.agg #[.slice (some ⟨b1, 0, none⟩) (([97] : List Int).length) 1, .slice (some ⟨b2, 0, none⟩) 1 1]] [] (by kernel_rfl) (trivial) ?_
 refine RW.op (by kernel_rfl) (OK.new hT (f := fun b => .slice (some ⟨b, 0, none⟩) 1 1) (cs := [.int .u8 98]) (e := 5) (c := .tt) s (by kernel_rfl) trivial ?_)
 clear s
 rintro w5 b3 s k4 -
 replace e1 := e1.st k4
 replace rp2 := rp2.st k4
 replace kk := kk.trans k4
 have rp3 : RepL (Rp.int .u8) I1 w5 [.int .u8 98] ([98] : List Int) := RepL.cons (c := [.int .u8 98]) (d := []) (rfl) (RepL.nil)
 replace s : St w1 M I1 ((.sl (.slice (some ⟨b3, 0, none⟩) 1 1) 5 1 1 [.int .u8 98]) :: (.sl (.slice (some ⟨b2, 0, none⟩) 1 1) 5 1 1 [.int .u8 7]) :: F) w5 := s.blkSl (i := 0) (n := 1) (c := 1) (size := 1) rfl rfl (Nat.le_refl _) (by decide)
 refine RW.op (by kernel_rfl) (OK.mark hT (t := 27) (eT := 5) (i := 0) (b := b3) (c := 1) (e := 5) (n := 1) (xs := ([98] : List Int)) s (by kernel_rfl) rfl rfl rfl rfl rfl rfl rp3 ?_)
 clear s
 rintro I2 w6 s k5 hc2 e2
 replace e1 := e1.st k5
 replace rp2 := rp2.st k5
 replace kk := kk.trans k5
 refine RW.seg hT 1 [] [] [.agg #[.slice (some ⟨b3, 0, none⟩) (([98] : List Int).length) 1, .slice none 0 0]] [] (by kernel_rfl) (trivial) ?_
 obtain ⟨I3, s', k6, hc3, e3⟩ := St.give s (i := 0) rfl rfl rp2
 replace s := s'; clear s'
 replace e1 := e1.st k6
 replace e2 := e2.st k6
 replace kk := kk.trans k6
 refine RW.op (by kernel_rfl) (OK.new hT (f := fun b => .slice (some ⟨b, 0, none⟩) 2 2) (cs := [.slice (some ⟨b1, 0, none⟩) (([97] : List Int).length) 1, .slice (some ⟨b2, 0, none⟩) (([7] : List Int).length) 1, .slice (some ⟨b3, 0, none⟩) (([98] : List Int).length) 1, .slice none 0 0]) (e := 48) (c := .tt) s (by kernel_rfl) trivial ?_)
 clear s
 rintro w7 b4 s k7 -
 replace e1 := e1.st k7
 replace e3 := e3.st k7
 replace e2 := e2.st k7
 replace kk := kk.trans k7
 have rp4 : RepL rp_T_api_Pair I3 w7 [.slice (some ⟨b1, 0, none⟩) (([97] : List Int).length) 1, .slice (some ⟨b2, 0, none⟩) (([7] : List Int).length) 1, .slice (some ⟨b3, 0, none⟩) (([98] : List Int).length) 1, .slice none 0 0] ([(T_api_Pair.mk ([97] : List Int) ([7] : List Int)), (T_api_Pair.mk ([98] : List Int) [])] : List T_api_Pair) := RepL.cons (c := [.slice (some ⟨b1, 0, none⟩) (([97] : List Int).length) 1, .slice (some ⟨b2, 0, none⟩) (([7] : List Int).length) 1]) (d := [.slice (some ⟨b3, 0, none⟩) (([98] : List Int).length) 1, .slice none 0 0]) (⟨[.slice (some ⟨b1, 0, none⟩) (([97] : List Int).length) 1], [.slice (some ⟨b2, 0, none⟩) (([7] : List Int).length) 1], rfl, ⟨_, _, rfl, hc1.1, hc1.2, e1⟩, ⟨_, _, rfl, hc3.1, hc3.2, e3⟩⟩) (RepL.cons (c := [.slice (some ⟨b3, 0, none⟩) (([98] : List Int).length) 1, .slice none 0 0]) (d := []) (⟨[.slice (some ⟨b3, 0, none⟩) (([98] : List Int).length) 1], [.slice none 0 0], rfl, ⟨_, _, rfl, hc2.1, hc2.2, e2⟩, ⟨_, _, rfl, nil_hc.1, nil_hc.2, Elems.nil⟩⟩) (RepL.nil))
 replace s : St w1 M I3 ((.sl (.slice (some ⟨b4, 0, none⟩) 2 2) 48 2 2 [.slice (some ⟨b1, 0, none⟩) (([97] : List Int).length) 1, .slice (some ⟨b2, 0, none⟩) (([7] : List Int).length) 1, .slice (some ⟨b3, 0, none⟩) (([98] : List Int).length) 1, .slice none 0 0]) :: F) w7 := s.blkSl (i := 0) (n := 2) (c := 2) (size := 2) rfl rfl (Nat.le_refl _) (by decide)
 refine RW.seg hT 1 [] [] [.agg #[.bool true, .slice (some ⟨b4, 0, none⟩) 2 2, .slice none 0 0, .slice none 0 0]] [] (by kernel_rfl) (trivial) ?_
 have sa1 := s
 obtain ⟨hc4, e4⟩ := St.lend s (i := 0) rfl rfl rp4
 have k8 := Kp.shut (I := I3) (w := w7) (p := .sl (.slice (some ⟨b4, 0, none⟩) 2 2) 48 2 2 [.slice (some ⟨b1, 0, none⟩) (([97] : List Int).length) 1, .slice (some ⟨b2, 0, none⟩) (([7] : List Int).length) 1, .slice (some ⟨b3, 0, none⟩) (([98] : List Int).length) 1, .slice none 0 0])
 replace s := s.shut 0 rfl
 obtain ⟨x1, hx1, hf⟩ := bindS hf
 refine RW.op (by kernel_rfl) (OK.call' en30 (by kernel_rfl) (c30 (F := F) (T_api_Node.mk true ([(T_api_Pair.mk ([97] : List Int) ([7] : List Int)), (T_api_Pair.mk ([98] : List Int) [])] : List T_api_Pair) [] []) (some ⟨b4, 0, none⟩) 2 none 0 none 0 hc4 e4 nil_hc Elems.nil nil_hc Elems.nil s hx1) ?_)
 intro X1 hX1
 refine fun _ _ hJ => hJ X1 ?_
 clear s
 intro I4 A1 n1 u1 cl1 w8 s k9 hn1 rp5
 refine hX1 _ _ ?_
 have s' := St.back sa1 (i := 0) rfl s k9
 replace k9 := Kp.back sa1 (i := 0) rfl k9
 replace s := s'; clear s'
 obtain ⟨I5, s, k9⟩ : ∃ I : Nat → Prop, St w1 M I ((.sl (.slice (some ⟨b4, 0, none⟩) 2 2) 48 2 2 [.slice (some ⟨b1, 0, none⟩) (([97] : List Int).length) 1, .slice (some ⟨b2, 0, none⟩) (([7] : List Int).length) 1, .slice (some ⟨b3, 0, none⟩) (([98] : List Int).length) 1, .slice none 0 0]) :: (.sl (.slice A1 n1 u1) 5 1 n1 cl1) :: F) w8 ∧ Kp _ _ I _ := ⟨_, s, k9⟩
 replace rp5 := RepL.free (I' := I5) (w' := w8) free_int rp5
 replace e1 := e1.st k9
 replace e3 := e3.st k9
 replace e2 := e2.st k9
 replace rp4 := rp4.st k9
 replace kk := kk.trans k9
 rw [hn1] at s
 try rw [hn1]
 obtain ⟨I6, s', k10, hc5, e5⟩ := St.give s (i := 1) rfl rfl rp5
 replace s := s'; clear s'
 replace e1 := e1.st k10
 replace e3 := e3.st k10
 replace e2 := e2.st k10
 replace rp4 := rp4.st k10
 replace kk := kk.trans k10
 refine RW.seg hT 7 [] [] [.tuple #[.int .i64 x1.1, .slice A1 x1.2.1.length u1, .int .i64 x1.2.2], .int .i64 x1.1, .slice A1 x1.2.1.length u1, .int .i64 x1.2.2, .int .i64 x1.1, .slice A1 x1.2.1.length u1, .int .i64 x1.2.2] [] (by kernel_rfl) (trivial) ?_
 refine RW.nil ?_
 refine WPK.seq ?_
 refine WPK.region ?_
 refine RW.op (by kernel_rfl) (OK.new hT (f := fun b => .slice (some ⟨b, 0, none⟩) 1 1) (cs := [.int .u8 98]) (e := 5) (c := .tt) s (by kernel_rfl) trivial ?_)
 clear s
 rintro w9 b5 s k11 -
 replace e5 := e5.st k11
 replace e1 := e1.st k11
 replace e3 := e3.st k11
 replace e2 := e2.st k11
 replace rp4 := rp4.st k11
 replace kk := kk.trans k11
 have rp6 : RepL (Rp.int .u8) I6 w9 [.int .u8 98] ([98] : List Int) := RepL.cons (c := [.int .u8 98]) (d := []) (rfl) (RepL.nil)
 replace s : St w1 M I6 ((.sl (.slice (some ⟨b5, 0, none⟩) 1 1) 5 1 1 [.int .u8 98]) :: (.sl (.slice (some ⟨b4, 0, none⟩) 2 2) 48 2 2 [.slice (some ⟨b1, 0, none⟩) (([97] : List Int).length) 1, .slice (some ⟨b2, 0, none⟩) (([7] : List Int).length) 1, .slice (some ⟨b3, 0, none⟩) (([98] : List Int).length) 1, .slice none 0 0]) :: F) w9 := s.blkSl (i := 0) (n := 1) (c := 1) (size := 1) rfl rfl (Nat.le_refl _) (by decide)
 refine RW.op (by kernel_rfl) (OK.mark hT (t := 27) (eT := 5) (i := 0) (b := b5) (c := 1) (e := 5) (n := 1) (xs := ([98] : List Int)) s (by kernel_rfl) rfl rfl rfl rfl rfl rfl rp6 ?_)
 clear s
 rintro I7 w10 s k12 hc6 e6
 replace e5 := e5.st k12
 replace e1 := e1.st k12
 replace e3 := e3.st k12
 replace e2 := e2.st k12
 replace rp4 := rp4.st k12
 replace kk := kk.trans k12
 refine RW.op (by kernel_rfl) (OK.new hT (f := fun b => .slice (some ⟨b, 0, none⟩) 1 1) (cs := [.slice (some ⟨b5, 0, none⟩) (([98] : List Int).length) 1]) (e := 27) (c := .tt) s (by kernel_rfl) trivial ?_)
 clear s
 rintro w11 b6 s k13 -
 replace e5 := e5.st k13
 replace e1 := e1.st k13
 replace e3 := e3.st k13
 replace e2 := e2.st k13
 replace e6 := e6.st k13
 replace rp4 := rp4.st k13
 replace kk := kk.trans k13
 have rp7 : RepL (Rp.slice (Rp.int .u8)) I7 w11 [.slice (some ⟨b5, 0, none⟩) (([98] : List Int).length) 1] ([([98] : List Int)] : List (List Int)) := RepL.cons (c := [.slice (some ⟨b5, 0, none⟩) (([98] : List Int).length) 1]) (d := []) (⟨_, _, rfl, hc6.1, hc6.2, e6⟩) (RepL.nil)
 replace s : St w1 M I7 ((.sl (.slice (some ⟨b6, 0, none⟩) 1 1) 27 1 1 [.slice (some ⟨b5, 0, none⟩) (([98] : List Int).length) 1]) :: (.sl (.slice (some ⟨b4, 0, none⟩) 2 2) 48 2 2 [.slice (some ⟨b1, 0, none⟩) (([97] : List Int).length) 1, .slice (some ⟨b2, 0, none⟩) (([7] : List Int).length) 1, .slice (some ⟨b3, 0, none⟩) (([98] : List Int).length) 1, .slice none 0 0]) :: F) w11 := s.blkSl (i := 0) (n := 1) (c := 1) (size := 1) rfl rfl (Nat.le_refl _) (by decide)
 refine RW.op (by kernel_rfl) (OK.new hT (f := fun b => .slice (some ⟨b, 0, none⟩) 2 2) (cs := [.int .i64 5, .int .i64 6]) (e := 3) (c := .tt) s (by kernel_rfl) trivial ?_)
 clear s
 rintro w12 b7 s k14 -
 replace e5 := e5.st k14
 replace e1 := e1.st k14
 replace e3 := e3.st k14
 replace e2 := e2.st k14
 replace e6 := e6.st k14
 replace rp7 := rp7.st k14
 replace rp4 := rp4.st k14
 replace kk := kk.trans k14
 have rp8 : RepL (Rp.int .i64) I7 w12 [.int .i64 5, .int .i64 6] ([5, 6] : List Int) := RepL.cons (c := [.int .i64 5]) (d := [.int .i64 6]) (rfl) (RepL.cons (c := [.int .i64 6]) (d := []) (rfl) (RepL.nil))
 replace s : St w1 M I7 ((.sl (.slice (some ⟨b7, 0, none⟩) 2 2) 3 1 2 [.int .i64 5, .int .i64 6]) :: (.sl (.slice (some ⟨b6, 0, none⟩) 1 1) 27 1 1 [.slice (some ⟨b5, 0, none⟩) (([98] : List Int).length) 1]) :: (.sl (.slice (some ⟨b4, 0, none⟩) 2 2) 48 2 2 [.slice (some ⟨b1, 0, none⟩) (([97] : List Int).length) 1, .slice (some ⟨b2, 0, none⟩) (([7] : List Int).length) 1, .slice (some ⟨b3, 0, none⟩) (([98] : List Int).length) 1, .slice none 0 0]) :: F) w12 := s.blkSl (i := 0) (n := 2) (c := 2) (size := 1) rfl rfl (Nat.le_refl _) (by decide)
 refine RW.seg hT 1 [] [] [.agg #[.bool false, .slice none 0 0, .slice (some ⟨b6, 0, none⟩) 1 1, .slice (some ⟨b7, 0, none⟩) 2 2]] [] (by kernel_rfl) (trivial) ?_
 refine RW.op (by kernel_rfl) (OK.new hT (f := fun b => .pointer (some ⟨b, 0, none⟩)) (cs := [.bool false, .slice none 0 0, .slice none 0 0, .slice none 0 0]) (e := 26) (c := .tt) s (by kernel_rfl) trivial ?_)
 clear s
 rintro w13 b8 s k15 -
 replace e5 := e5.st k15
 replace e1 := e1.st k15
 replace e3 := e3.st k15
 replace e2 := e2.st k15
 replace e6 := e6.st k15
 replace rp8 := rp8.st k15
 replace rp7 := rp7.st k15
 replace rp4 := rp4.st k15
 replace kk := kk.trans k15
 refine RW.op (by kernel_rfl) (OK.store hT (i := 0) (b := b8) (off := 0) (n := 4) (vs := [.bool false, .slice none 0 0, .slice (some ⟨b6, 0, none⟩) 1 1, .slice (some ⟨b7, 0, none⟩) 2 2]) (cs := [.bool false, .slice none 0 0, .slice none 0 0, .slice none 0 0]) (e := 26) s (by kernel_rfl) rfl rfl (flat_ok rfl) (Nat.le_of_ble_eq_true rfl) ?_)
 clear s
 rintro w14 s k16 -
 replace e5 := e5.st k16
 replace e1 := e1.st k16
 replace e3 := e3.st k16
 replace e2 := e2.st k16
 replace e6 := e6.st k16
 replace rp8 := rp8.st k16
 replace rp7 := rp7.st k16
 replace rp4 := rp4.st k16
 replace kk := kk.trans k16
 refine RW.nil ?_
 refine WPK.seq ?_
 refine WPK.cut' (Kn fun D1 ds wz => ∀ X : Kont, (∀ (I8 : Nat → Prop) (x2 : Bool) (w' : World), g11_j1 x2 = some r → St w1 M I8 (F) w' → Kp I w I8 w' → X [.bool x2, (gd D1 1), (gd D1 2), (gd D1 3), (gd D1 4), (gd D1 5), (gd D1 6), (gd D1 7), (gd D1 8), (gd D1 9), (gd D1 10), (gd D1 11), (gd D1 12), (gd D1 13), (gd D1 14), (gd D1 15), (gd D1 16), (gd D1 17), (gd D1 18), (gd D1 19), (gd D1 20), (gd D1 21), (gd D1 22), (gd D1 23), (gd D1 24), (gd D1 25), (gd D1 26), (gd D1 27), (gd D1 28), (gd D1 29), (gd D1 30), (gd D1 31), (gd D1 32), (gd D1 33), (gd D1 34), (gd D1 35), (gd D1 36), (gd D1 37), (gd D1 38), (gd D1 39), (gd D1 40), (gd D1 41), (gd D1 42), (gd D1 43), (gd D1 44), (gd D1 45), (gd D1 46), (gd D1 47), (gd D1 48), (gd D1 49), (gd D1 50), (gd D1 51), (gd D1 52), (gd D1 53), (gd D1 54)] [] w') → X D1 ds wz) ?_ ?_
 intro X2 hX2
 refine fun D1 _ _ hJ => hJ X2 ?_
 clear s
 intro I8 x2 w15 hf s kk
 refine hX2 _ _ _ ?_
 unfold g11_j1 at hf
 refine WPK.ret (?_)
 obtain rfl := someS hf
 refine Fin.of (rs := [.tmp 0]) hT [] (.bool x2) [] rfl (by kernel_rfl) (trivial) ?_
 exact fun X h => vc rfl (h I8 _ s kk)
 refine WPK.region ?_
 refine RW.seg hT 2 [] [(25, .bool (decide (x1.2.2 = 0)))] [.int .i64 x1.2.2, .bool (decide (x1.2.2 = 0))] [.veq (.bool (x1.2.2 == 0)) (.bool (decide (x1.2.2 = 0)))] (by kernel_rfl) (eq_v) ?_
 by_cases h1 : x1.2.2 = 0
 have hf := iteT h1 hf
 refine RW.seg hT 4 [] [(26, .bool true), (28, .bool (decide (x1.1 = 3)))] [.bool true, .int .i64 x1.1, .bool (decide (x1.1 = 3)), .bool (decide (x1.1 = 3))] [.veq (.bool (decide (x1.2.2 = 0))) (.bool true), .veq (.bool (x1.1 == 3)) (.bool (decide (x1.1 = 3)))] (by kernel_rfl) (⟨bo_t h1, eq_v⟩) ?_
 by_cases h2 : x1.1 = 3
 have hf := iteT h2 hf
 refine RW.seg hT 5 [] [(30, .bool true), (33, .bool (decide ((x1.2.1.length : Int) = 240)))] [.bool true, .slice A1 x1.2.1.length u1, .int .i64 (x1.2.1.length : Int), .bool (decide ((x1.2.1.length : Int) = 240)), .bool (decide ((x1.2.1.length : Int) = 240))] [.veq (.bool (decide (x1.1 = 3))) (.bool true), .veq (.bool ((x1.2.1.length : Int) == 240)) (.bool (decide ((x1.2.1.length : Int) = 240)))] (by kernel_rfl) (⟨bo_t h2, eq_v⟩) ?_
 by_cases h3 : (x1.2.1.length : Int) = 240
 have hf := iteT h3 hf
 obtain ⟨y1, hy1, hf⟩ := bindS hf
 obtain ⟨h4, hc7, e7, q1⟩ := slS0 hc5 e5 hy1
 refine RW.seg hT 3 [] [(35, .bool true), (37, .slice A1 y1.length u1)] [.bool true, .slice A1 x1.2.1.length u1, .slice A1 y1.length u1] [.veq (.bool (decide ((x1.2.1.length : Int) = 240))) (.bool true), .both (.cut 0 9 u1 u1) (.veq (.slice A1 (9 : Int).toNat u1) (.slice A1 y1.length u1))] (by kernel_rfl) (⟨bo_t h3, ⟨⟨by omega, by omega, by omega, by omega⟩, sl_eq rfl q1 rfl⟩⟩) ?_
 refine RW.op (by kernel_rfl) (OK.new hT (f := fun b => .slice (some ⟨b, 0, none⟩) 9 9) (cs := [.int .u8 2, .int .u8 1, .int .u8 97, .int .u8 1, .int .u8 7, .int .u8 1, .int .u8 98, .int .u8 0, .int .u8 0]) (e := 5) (c := .tt) s (by kernel_rfl) trivial ?_)
 clear s
 rintro w16 b9 s k17 -
 replace e5 := e5.st k17
 replace e1 := e1.st k17
 replace e3 := e3.st k17
 replace e2 := e2.st k17
 replace e6 := e6.st k17
 replace e7 := e7.st k17
 replace rp8 := rp8.st k17
 replace rp7 := rp7.st k17
 replace rp4 := rp4.st k17
 replace kk := kk.trans k17
 have rp9 : RepL (Rp.int .u8) I7 w16 [.int .u8 2, .int .u8 1, .int .u8 97, .int .u8 1, .int .u8 7, .int .u8 1, .int .u8 98, .int .u8 0, .int .u8 0] ([2, 1, 97, 1, 7, 1, 98, 0, 0] : List Int) := RepL.cons (c := [.int .u8 2]) (d := [.int .u8 1, .int .u8 97, .int .u8 1, .int .u8 7, .int .u8 1, .int .u8 98, .int .u8 0, .int .u8 0]) (rfl) (RepL.cons (c := [.int .u8 1]) (d := [.int .u8 97, .int .u8 1, .int .u8 7, .int .u8 1, .int .u8 98, .int .u8 0, .int .u8 0]) (rfl) (RepL.cons (c := [.int .u8 97]) (d := [.int .u8 1, .int .u8 7, .int .u8 1, .int .u8 98, .int .u8 0, .int .u8 0]) (rfl) (RepL.cons (c := [.int .u8 1]) (d := [.int .u8 7, .int .u8 1, .int .u8 98, .int .u8 0, .int .u8 0]) (rfl) (RepL.cons (c := [.int .u8 7]) (d := [.int .u8 1, .int .u8 98, .int .u8 0, .int .u8 0]) (rfl) (RepL.cons (c := [.int .u8 1]) (d := [.int .u8 98, .int .u8 0, .int .u8 0]) (rfl) (RepL.cons (c := [.int .u8 98]) (d := [.int .u8 0, .int .u8 0]) (rfl) (RepL.cons (c := [.int .u8 0]) (d := [.int .u8 0]) (rfl) (RepL.cons (c := [.int .u8 0]) (d := []) (rfl) (RepL.nil)))))))))
 replace s : St w1 M I7 ((.sl (.slice (some ⟨b9, 0, none⟩) 9 9) 5 1 9 [.int .u8 2, .int .u8 1, .int .u8 97, .int .u8 1, .int .u8 7, .int .u8 1, .int .u8 98, .int .u8 0, .int .u8 0]) :: (.blk b8 (.cells #[.bool false, .slice none 0 0, .slice (some ⟨b6, 0, none⟩) 1 1, .slice (some ⟨b7, 0, none⟩) 2 2] 26 (0, 0))) :: (.sl (.slice (some ⟨b7, 0, none⟩) 2 2) 3 1 2 [.int .i64 5, .int .i64 6]) :: (.sl (.slice (some ⟨b6, 0, none⟩) 1 1) 27 1 1 [.slice (some ⟨b5, 0, none⟩) (([98] : List Int).length) 1]) :: (.sl (.slice (some ⟨b4, 0, none⟩) 2 2) 48 2 2 [.slice (some ⟨b1, 0, none⟩) (([97] : List Int).length) 1, .slice (some ⟨b2, 0, none⟩) (([7] : List Int).length) 1, .slice (some ⟨b3, 0, none⟩) (([98] : List Int).length) 1, .slice none 0 0]) :: F) w16 := s.blkSl (i := 0) (n := 9) (c := 9) (size := 1) rfl rfl (Nat.le_refl _) (by decide)
 have sa2 := s
 obtain ⟨hc8, e8⟩ := St.lend s (i := 0) rfl rfl rp9
 have k18 := Kp.shut (I := I7) (w := w16) (p := .sl (.slice (some ⟨b9, 0, none⟩) 9 9) 5 1 9 [.int .u8 2, .int .u8 1, .int .u8 97, .int .u8 1, .int .u8 7, .int .u8 1, .int .u8 98, .int .u8 0, .int .u8 0])
 replace s := s.shut 0 rfl
 obtain ⟨x3, hx2, hf⟩ := bindS hf
 refine RW.op (by kernel_rfl) (OK.call' en34 (by kernel_rfl) (c34 (F := (.blk b8 (.cells #[.bool false, .slice none 0 0, .slice (some ⟨b6, 0, none⟩) 1 1, .slice (some ⟨b7, 0, none⟩) 2 2] 26 (0, 0))) :: (.sl (.slice (some ⟨b7, 0, none⟩) 2 2) 3 1 2 [.int .i64 5, .int .i64 6]) :: (.sl (.slice (some ⟨b6, 0, none⟩) 1 1) 27 1 1 [.slice (some ⟨b5, 0, none⟩) (([98] : List Int).length) 1]) :: (.sl (.slice (some ⟨b4, 0, none⟩) 2 2) 48 2 2 [.slice (some ⟨b1, 0, none⟩) (([97] : List Int).length) 1, .slice (some ⟨b2, 0, none⟩) (([7] : List Int).length) 1, .slice (some ⟨b3, 0, none⟩) (([98] : List Int).length) 1, .slice none 0 0]) :: F) y1 ([2, 1, 97, 1, 7, 1, 98, 0, 0] : List Int) A1 u1 (some ⟨b9, 0, none⟩) 9 hc7 (e7.st k18) hc8 e8 s hx2) ?_)
 intro X3 hX3
 refine fun _ _ hJ => hJ X3 ?_
 clear s
 intro I9 w17 s k19
 refine hX3 _ _ ?_
 have s' := St.back sa2 (i := 0) rfl s k19
 replace k19 := Kp.back sa2 (i := 0) rfl k19
 replace s := s'; clear s'
 obtain ⟨I10, s, k19⟩ : ∃ I : Nat → Prop, St w1 M I ((.sl (.slice (some ⟨b9, 0, none⟩) 9 9) 5 1 9 [.int .u8 2, .int .u8 1, .int .u8 97, .int .u8 1, .int .u8 7, .int .u8 1, .int .u8 98, .int .u8 0, .int .u8 0]) :: (.blk b8 (.cells #[.bool false, .slice none 0 0, .slice (some ⟨b6, 0, none⟩) 1 1, .slice (some ⟨b7, 0, none⟩) 2 2] 26 (0, 0))) :: (.sl (.slice (some ⟨b7, 0, none⟩) 2 2) 3 1 2 [.int .i64 5, .int .i64 6]) :: (.sl (.slice (some ⟨b6, 0, none⟩) 1 1) 27 1 1 [.slice (some ⟨b5, 0, none⟩) (([98] : List Int).length) 1]) :: (.sl (.slice (some ⟨b4, 0, none⟩) 2 2) 48 2 2 [.slice (some ⟨b1, 0, none⟩) (([97] : List Int).length) 1, .slice (some ⟨b2, 0, none⟩) (([7] : List Int).length) 1, .slice (some ⟨b3, 0, none⟩) (([98] : List Int).length) 1, .slice none 0 0]) :: F) w17 ∧ Kp _ _ I _ := ⟨_, s, k19⟩
 replace e5 := e5.st k19
 replace e1 := e1.st k19
 replace e3 := e3.st k19
 replace e2 := e2.st k19
 replace e6 := e6.st k19
 replace e7 := e7.st k19
 replace rp8 := rp8.st k19
 replace rp7 := rp7.st k19
 replace rp4 := rp4.st k19
 replace rp9 := rp9.st k19
 replace kk := kk.trans k19
 refine RW.seg hT 1 [] [] [.bool x3] [] (by kernel_rfl) (trivial) ?_
 by_cases h5 : x3 = true
 have hf := iteT h5 hf
 refine RW.seg hT 2 [.agg #[.bool false, .slice none 0 0, .slice (some ⟨b6, 0, none⟩) 1 1, .slice (some ⟨b7, 0, none⟩) 2 2]] [(41, .bool true)] [.bool true, .agg #[.bool false, .slice none 0 0, .slice (some ⟨b6, 0, none⟩) 1 1, .slice (some ⟨b7, 0, none⟩) 2 2]] [.veq (.bool (x3)) (.bool true), .cells ⟨b8, 0, none⟩ [.bool false, .slice none 0 0, .slice (some ⟨b6, 0, none⟩) 1 1, .slice (some ⟨b7, 0, none⟩) 2 2] 4] (by kernel_rfl) (⟨b_t h5, s.cells (i := 1) rfl rfl rfl⟩) ?_
 refine RW.op (by kernel_rfl) (OK.new hT (f := fun b => .slice (some ⟨b, 0, none⟩) 1 1) (cs := [.int .u8 98]) (e := 5) (c := .tt) s (by kernel_rfl) trivial ?_)
 clear s
 rintro w18 b10 s k20 -
 replace e5 := e5.st k20
 replace e1 := e1.st k20
 replace e3 := e3.st k20
 replace e2 := e2.st k20
 replace e6 := e6.st k20
 replace e7 := e7.st k20
 replace rp9 := rp9.st k20
 replace rp8 := rp8.st k20
 replace rp7 := rp7.st k20
 replace rp4 := rp4.st k20
 replace kk := kk.trans k20
 have rp10 : RepL (Rp.int .u8) I10 w18 [.int .u8 98] ([98] : List Int) := RepL.cons (c := [.int .u8 98]) (d := []) (rfl) (RepL.nil)
 replace s : St w1 M I10 ((.sl (.slice (some ⟨b10, 0, none⟩) 1 1) 5 1 1 [.int .u8 98]) :: (.sl (.slice (some ⟨b9, 0, none⟩) 9 9) 5 1 9 [.int .u8 2, .int .u8 1, .int .u8 97, .int .u8 1, .int .u8 7, .int .u8 1, .int .u8 98, .int .u8 0, .int .u8 0]) :: (.blk b8 (.cells #[.bool false, .slice none 0 0, .slice (some ⟨b6, 0, none⟩) 1 1, .slice (some ⟨b7, 0, none⟩) 2 2] 26 (0, 0))) :: (.sl (.slice (some ⟨b7, 0, none⟩) 2 2) 3 1 2 [.int .i64 5, .int .i64 6]) :: (.sl (.slice (some ⟨b6, 0, none⟩) 1 1) 27 1 1 [.slice (some ⟨b5, 0, none⟩) (([98] : List Int).length) 1]) :: (.sl (.slice (some ⟨b4, 0, none⟩) 2 2) 48 2 2 [.slice (some ⟨b1, 0, none⟩) (([97] : List Int).length) 1, .slice (some ⟨b2, 0, none⟩) (([7] : List Int).length) 1, .slice (some ⟨b3, 0, none⟩) (([98] : List Int).length) 1, .slice none 0 0]) :: F) w18 := s.blkSl (i := 0) (n := 1) (c := 1) (size := 1) rfl rfl (Nat.le_refl _) (by decide)
 refine RW.op (by kernel_rfl) (OK.mark hT (t := 27) (eT := 5) (i := 0) (b := b10) (c := 1) (e := 5) (n := 1) (xs := ([98] : List Int)) s (by kernel_rfl) rfl rfl rfl rfl rfl rfl rp10 ?_)
 clear s
 rintro I11 w19 s k21 hc9 e9
 replace e5 := e5.st k21
 replace e1 := e1.st k21
 replace e3 := e3.st k21
 replace e2 := e2.st k21
 replace e6 := e6.st k21
 replace e7 := e7.st k21
 replace rp9 := rp9.st k21
 replace rp8 := rp8.st k21
 replace rp7 := rp7.st k21
 replace rp4 := rp4.st k21
 replace kk := kk.trans k21
 have sa3 := s
 obtain ⟨hc10, e10⟩ := St.lend s (i := 3) rfl rfl rp7
 have k22 := Kp.shut (I := I11) (w := w19) (p := .sl (.slice (some ⟨b6, 0, none⟩) 1 1) 27 1 1 [.slice (some ⟨b5, 0, none⟩) (([98] : List Int).length) 1])
 replace s := s.shut 3 rfl
 have sa4 := s
 obtain ⟨hc11, e11⟩ := St.lend s (i := 2) rfl rfl (rp8.st k22)
 have k23 := Kp.shut (I := (fun k => I11 k ∨ (It.sl (.slice (some ⟨b6, 0, none⟩) 1 1) 27 1 1 [.slice (some ⟨b5, 0, none⟩) (([98] : List Int).length) 1]).foot = some k)) (w := w19) (p := .sl (.slice (some ⟨b7, 0, none⟩) 2 2) 3 1 2 [.int .i64 5, .int .i64 6])
 replace s := s.shut 2 rfl
 replace e10 := e10.st k23
 obtain ⟨x4, hx3, hf⟩ := bindS hf
 refine RW.op (by kernel_rfl) (OK.call' en13 (by kernel_rfl) (c13 (F := (.sl (.slice (some ⟨b9, 0, none⟩) 9 9) 5 1 9 [.int .u8 2, .int .u8 1, .int .u8 97, .int .u8 1, .int .u8 7, .int .u8 1, .int .u8 98, .int .u8 0, .int .u8 0]) :: (.blk b8 (.cells #[.bool false, .slice none 0 0, .slice (some ⟨b6, 0, none⟩) 1 1, .slice (some ⟨b7, 0, none⟩) 2 2] 26 (0, 0))) :: (.sl (.slice (some ⟨b4, 0, none⟩) 2 2) 48 2 2 [.slice (some ⟨b1, 0, none⟩) (([97] : List Int).length) 1, .slice (some ⟨b2, 0, none⟩) (([7] : List Int).length) 1, .slice (some ⟨b3, 0, none⟩) (([98] : List Int).length) 1, .slice none 0 0]) :: F) (T_api_Node.mk false [] ([([98] : List Int)] : List (List Int)) ([5, 6] : List Int)) ([98] : List Int) none 0 (some ⟨b6, 0, none⟩) 1 (some ⟨b7, 0, none⟩) 2 (some ⟨b10, 0, none⟩) 1 nil_hc Elems.nil hc10 e10 hc11 e11 hc9 ((e9.st k22).st k23) s hx3) ?_)
 intro X4 hX4
 refine fun _ _ hJ => hJ X4 ?_
 clear s
 intro I12 w20 s k24
 refine hX4 _ _ ?_
 have s' := St.back sa4 (i := 2) rfl s k24
 replace k24 := Kp.back sa4 (i := 2) rfl k24
 replace s := s'; clear s'
 have s' := St.back sa3 (i := 3) rfl s k24
 replace k24 := Kp.back sa3 (i := 3) rfl k24
 replace s := s'; clear s'
 obtain ⟨I13, s, k24⟩ : ∃ I : Nat → Prop, St w1 M I ((.sl (.slice (some ⟨b6, 0, none⟩) 1 1) 27 1 1 [.slice (some ⟨b5, 0, none⟩) (([98] : List Int).length) 1]) :: (.sl (.slice (some ⟨b7, 0, none⟩) 2 2) 3 1 2 [.int .i64 5, .int .i64 6]) :: (.sl (.slice (some ⟨b9, 0, none⟩) 9 9) 5 1 9 [.int .u8 2, .int .u8 1, .int .u8 97, .int .u8 1, .int .u8 7, .int .u8 1, .int .u8 98, .int .u8 0, .int .u8 0]) :: (.blk b8 (.cells #[.bool false, .slice none 0 0, .slice (some ⟨b6, 0, none⟩) 1 1, .slice (some ⟨b7, 0, none⟩) 2 2] 26 (0, 0))) :: (.sl (.slice (some ⟨b4, 0, none⟩) 2 2) 48 2 2 [.slice (some ⟨b1, 0, none⟩) (([97] : List Int).length) 1, .slice (some ⟨b2, 0, none⟩) (([7] : List Int).length) 1, .slice (some ⟨b3, 0, none⟩) (([98] : List Int).length) 1, .slice none 0 0]) :: F) w20 ∧ Kp _ _ I _ := ⟨_, s, k24⟩
 replace e5 := e5.st k24
 replace e1 := e1.st k24
 replace e3 := e3.st k24
 replace e2 := e2.st k24
 replace e6 := e6.st k24
 replace e7 := e7.st k24
 replace e9 := e9.st k24
 replace rp9 := rp9.st k24
 replace rp4 := rp4.st k24
 replace rp7 := rp7.st k24
 replace rp8 := rp8.st k24
 replace kk := kk.trans k24
 refine RW.seg hT 2 [] [(46, .bool (decide (x4 = 1)))] [.bool (decide (x4 = 1)), .bool (decide (x4 = 1))] [.veq (.bool (x4 == 1)) (.bool (decide (x4 = 1)))] (by kernel_rfl) (eq_v) ?_
 by_cases h6 : x4 = 1
 have hf := iteT h6 hf
 refine RW.seg hT 2 [.agg #[.bool false, .slice none 0 0, .slice (some ⟨b6, 0, none⟩) 1 1, .slice (some ⟨b7, 0, none⟩) 2 2]] [(48, .bool true)] [.bool true, .agg #[.bool false, .slice none 0 0, .slice (some ⟨b6, 0, none⟩) 1 1, .slice (some ⟨b7, 0, none⟩) 2 2]] [.veq (.bool (decide (x4 = 1))) (.bool true), .cells ⟨b8, 0, none⟩ [.bool false, .slice none 0 0, .slice (some ⟨b6, 0, none⟩) 1 1, .slice (some ⟨b7, 0, none⟩) 2 2] 4] (by kernel_rfl) (⟨bo_t h6, s.cells (i := 3) rfl rfl rfl⟩) ?_
 refine RW.op (by kernel_rfl) (OK.new hT (f := fun b => .slice (some ⟨b, 0, none⟩) 3 3) (cs := [.int .u8 97, .int .u8 122, .int .u8 122]) (e := 5) (c := .tt) s (by kernel_rfl) trivial ?_)
 clear s
 rintro w21 b11 s k25 -
 replace e5 := e5.st k25
 replace e1 := e1.st k25
 replace e3 := e3.st k25
 replace e2 := e2.st k25
 replace e6 := e6.st k25
 replace e7 := e7.st k25
 replace e9 := e9.st k25
 replace rp7 := rp7.st k25
 replace rp8 := rp8.st k25
 replace rp9 := rp9.st k25
 replace rp4 := rp4.st k25
 replace kk := kk.trans k25
 have rp11 : RepL (Rp.int .u8) I13 w21 [.int .u8 97, .int .u8 122, .int .u8 122] ([97, 122, 122] : List Int) := RepL.cons (c := [.int .u8 97]) (d := [.int .u8 122, .int .u8 122]) (rfl) (RepL.cons (c := [.int .u8 122]) (d := [.int .u8 122]) (rfl) (RepL.cons (c := [.int .u8 122]) (d := []) (rfl) (RepL.nil)))
 replace s : St w1 M I13 ((.sl (.slice (some ⟨b11, 0, none⟩) 3 3) 5 1 3 [.int .u8 97, .int .u8 122, .int .u8 122]) :: (.sl (.slice (some ⟨b6, 0, none⟩) 1 1) 27 1 1 [.slice (some ⟨b5, 0, none⟩) (([98] : List Int).length) 1]) :: (.sl (.slice (some ⟨b7, 0, none⟩) 2 2) 3 1 2 [.int .i64 5, .int .i64 6]) :: (.sl (.slice (some ⟨b9, 0, none⟩) 9 9) 5 1 9 [.int .u8 2, .int .u8 1, .int .u8 97, .int .u8 1, .int .u8 7, .int .u8 1, .int .u8 98, .int .u8 0, .int .u8 0]) :: (.blk b8 (.cells #[.bool false, .slice none 0 0, .slice (some ⟨b6, 0, none⟩) 1 1, .slice (some ⟨b7, 0, none⟩) 2 2] 26 (0, 0))) :: (.sl (.slice (some ⟨b4, 0, none⟩) 2 2) 48 2 2 [.slice (some ⟨b1, 0, none⟩) (([97] : List Int).length) 1, .slice (some ⟨b2, 0, none⟩) (([7] : List Int).length) 1, .slice (some ⟨b3, 0, none⟩) (([98] : List Int).length) 1, .slice none 0 0]) :: F) w21 := s.blkSl (i := 0) (n := 3) (c := 3) (size := 1) rfl rfl (Nat.le_refl _) (by decide)
 refine RW.op (by kernel_rfl) (OK.mark hT (t := 27) (eT := 5) (i := 0) (b := b11) (c := 3) (e := 5) (n := 3) (xs := ([97, 122, 122] : List Int)) s (by kernel_rfl) rfl rfl rfl rfl rfl rfl rp11 ?_)
 clear s
 rintro I14 w22 s k26 hc12 e12
 replace e5 := e5.st k26
 replace e1 := e1.st k26
 replace e3 := e3.st k26
 replace e2 := e2.st k26
 replace e6 := e6.st k26
 replace e7 := e7.st k26
 replace e9 := e9.st k26
 replace rp7 := rp7.st k26
 replace rp8 := rp8.st k26
 replace rp9 := rp9.st k26
 replace rp4 := rp4.st k26
 replace kk := kk.trans k26
 have sa5 := s
 obtain ⟨hc13, e13⟩ := St.lend s (i := 0) rfl rfl rp7
 have k27 := Kp.shut (I := I14) (w := w22) (p := .sl (.slice (some ⟨b6, 0, none⟩) 1 1) 27 1 1 [.slice (some ⟨b5, 0, none⟩) (([98] : List Int).length) 1])
 replace s := s.shut 0 rfl
 have sa6 := s
 obtain ⟨hc14, e14⟩ := St.lend s (i := 0) rfl rfl (rp8.st k27)
 have k28 := Kp.shut (I := (fun k => I14 k ∨ (It.sl (.slice (some ⟨b6, 0, none⟩) 1 1) 27 1 1 [.slice (some ⟨b5, 0, none⟩) (([98] : List Int).length) 1]).foot = some k)) (w := w22) (p := .sl (.slice (some ⟨b7, 0, none⟩) 2 2) 3 1 2 [.int .i64 5, .int .i64 6])
 replace s := s.shut 0 rfl
 replace e13 := e13.st k28
 obtain ⟨x5, hx4, hf⟩ := bindS hf
 refine RW.op (by kernel_rfl) (OK.call' en13 (by kernel_rfl) (c13 (F := (.sl (.slice (some ⟨b9, 0, none⟩) 9 9) 5 1 9 [.int .u8 2, .int .u8 1, .int .u8 97, .int .u8 1, .int .u8 7, .int .u8 1, .int .u8 98, .int .u8 0, .int .u8 0]) :: (.blk b8 (.cells #[.bool false, .slice none 0 0, .slice (some ⟨b6, 0, none⟩) 1 1, .slice (some ⟨b7, 0, none⟩) 2 2] 26 (0, 0))) :: (.sl (.slice (some ⟨b4, 0, none⟩) 2 2) 48 2 2 [.slice (some ⟨b1, 0, none⟩) (([97] : List Int).length) 1, .slice (some ⟨b2, 0, none⟩) (([7] : List Int).length) 1, .slice (some ⟨b3, 0, none⟩) (([98] : List Int).length) 1, .slice none 0 0]) :: F) (T_api_Node.mk false [] ([([98] : List Int)] : List (List Int)) ([5, 6] : List Int)) ([97, 122, 122] : List Int) none 0 (some ⟨b6, 0, none⟩) 1 (some ⟨b7, 0, none⟩) 2 (some ⟨b11, 0, none⟩) 3 nil_hc Elems.nil hc13 e13 hc14 e14 hc12 ((e12.st k27).st k28) s hx4) ?_)
 intro X5 hX5
 refine fun _ _ hJ => hJ X5 ?_
 clear s
 intro I15 w23 s k29
 refine hX5 _ _ ?_
 have s' := St.back sa6 (i := 0) rfl s k29
 replace k29 := Kp.back sa6 (i := 0) rfl k29
 replace s := s'; clear s'
 have s' := St.back sa5 (i := 0) rfl s k29
 replace k29 := Kp.back sa5 (i := 0) rfl k29
 replace s := s'; clear s'
 obtain ⟨I16, s, k29⟩ : ∃ I : Nat → Prop, St w1 M I ((.sl (.slice (some ⟨b6, 0, none⟩) 1 1) 27 1 1 [.slice (some ⟨b5, 0, none⟩) (([98] : List Int).length) 1]) :: (.sl (.slice (some ⟨b7, 0, none⟩) 2 2) 3 1 2 [.int .i64 5, .int .i64 6]) :: (.sl (.slice (some ⟨b9, 0, none⟩) 9 9) 5 1 9 [.int .u8 2, .int .u8 1, .int .u8 97, .int .u8 1, .int .u8 7, .int .u8 1, .int .u8 98, .int .u8 0, .int .u8 0]) :: (.blk b8 (.cells #[.bool false, .slice none 0 0, .slice (some ⟨b6, 0, none⟩) 1 1, .slice (some ⟨b7, 0, none⟩) 2 2] 26 (0, 0))) :: (.sl (.slice (some ⟨b4, 0, none⟩) 2 2) 48 2 2 [.slice (some ⟨b1, 0, none⟩) (([97] : List Int).length) 1, .slice (some ⟨b2, 0, none⟩) (([7] : List Int).length) 1, .slice (some ⟨b3, 0, none⟩) (([98] : List Int).length) 1, .slice none 0 0]) :: F) w23 ∧ Kp _ _ I _ := ⟨_, s, k29⟩
 replace e5 := e5.st k29
 replace e1 := e1.st k29
 replace e3 := e3.st k29
 replace e2 := e2.st k29
 replace e6 := e6.st k29
 replace e7 := e7.st k29
 replace e9 := e9.st k29
 replace e12 := e12.st k29
 replace rp9 := rp9.st k29
 replace rp4 := rp4.st k29
 replace rp7 := rp7.st k29
 replace rp8 := rp8.st k29
 replace kk := kk.trans k29
 refine RW.seg hT 3 [] [(53, .bool (decide (x5 = 0)))] [.bool (decide (x5 = 0)), .bool (decide (x5 = 0)), .bool (decide (x5 = 0))] [.veq (.bool (x5 == 0)) (.bool (decide (x5 = 0)))] (by kernel_rfl) (eq_v) ?_
 refine RW.nil ?_
 replace s := s.pick [] 5 rfl
 exact fun X h => kc (by kernel_rfl) rfl (h I16 (decide (x5 = 0)) _ hf s kk)
 have hf := iteF h6 hf
 refine RW.seg hT 8 [] [(48, .bool false)] [.bool false, undef, undef, undef, undef, undef, .bool false, .bool false] [.veq (.bool (decide (x4 = 1))) (.bool false)] (by kernel_rfl) (bo_f h6) ?_
 refine RW.nil ?_
 replace s := s.pick [] 5 rfl
 exact fun X h => kc (by kernel_rfl) rfl (h I13 false _ hf s kk)
 have hf := iteF h5 hf
 refine RW.seg hT 15 [] [(41, .bool false)] [.bool false, undef, undef, undef, undef, undef, .bool false, .bool false, undef, undef, undef, undef, undef, .bool false, .bool false] [.veq (.bool (x3)) (.bool false)] (by kernel_rfl) (b_f h5) ?_
 refine RW.nil ?_
 replace s := s.pick [] 5 rfl
 exact fun X h => kc (by kernel_rfl) rfl (h I10 false _ hf s kk)
 have hf := iteF h3 hf
 refine RW.seg hT 21 [] [(35, .bool false)] [.bool false, undef, undef, undef, undef, .bool false, .bool false, undef, undef, undef, undef, undef, .bool false, .bool false, undef, undef, undef, undef, undef, .bool false, .bool false] [.veq (.bool (decide ((x1.2.1.length : Int) = 240))) (.bool false)] (by kernel_rfl) (bo_f h3) ?_
 refine RW.nil ?_
 replace s := s.pick [] 4 rfl
 exact fun X h => kc (by kernel_rfl) rfl (h I7 false _ hf s kk)
 have hf := iteF h2 hf
 refine RW.seg hT 26 [] [(30, .bool false)] [.bool false, undef, undef, undef, .bool false, .bool false, undef, undef, undef, undef, .bool false, .bool false, undef, undef, undef, undef, undef, .bool false, .bool false, undef, undef, undef, undef, undef, .bool false, .bool false] [.veq (.bool (decide (x1.1 = 3))) (.bool false)] (by kernel_rfl) (bo_f h2) ?_
 refine RW.nil ?_
 replace s := s.pick [] 4 rfl
 exact fun X h => kc (by kernel_rfl) rfl (h I7 false _ hf s kk)
 have hf := iteF h1 hf
 refine RW.seg hT 30 [] [(26, .bool false)] [.bool false, undef, undef, .bool false, .bool false, undef, undef, undef, .bool false, .bool false, undef, undef, undef, undef, .bool false, .bool false, undef, undef, undef, undef, undef, .bool false, .bool false, undef, undef, undef, undef, undef, .bool false, .bool false] [.veq (.bool (decide (x1.2.2 = 0))) (.bool false)] (by kernel_rfl) (bo_f h1) ?_
 refine RW.nil ?_
 replace s := s.pick [] 4 rfl
 exact fun X h => kc (by kernel_rfl) rfl (h I7 false _ hf s kk)
theorem c12 {w1 w : World} {M I : Nat → Prop} {F : List It} (p0 : (List T_api_Node)) (A1 : Option Addr) (u1 : Nat) (hc1 : (p0.length ≤ u1 ∧ u1 ≤ 9223372036854775807)) (e1 : Elems rp_T_api_Node I w A1 p0) (s : St w1 M I (F) w) {r : Bool} (hf : g12 p0 = some r) :
   Ret Try.prog 12 [.slice A1 p0.length u1] w fun v wz => ∀ X : Value → World → Prop, (∀ (I' : Nat → Prop) (w' : World), St w1 M I' (F) w' → Kp I w I' w' → X (.bool r) w') → X v wz := by
 have kk : Kp I w I w := Kp.refl
 unfold g12 at hf
 refine Ret.of Try.func12 rfl ?_
 refine WPK.seq ?_
 refine WPK.region ?_
 refine RW.seg hT 1 [] [] [.bool false] [] (by kernel_rfl) (trivial) ?_
 refine RW.nil ?_
 refine WPK.seq ?_
 refine WPK.seq ?_
 refine WPK.region ?_
 refine RW.seg hT 3 [] [] [.slice A1 p0.length u1, .int .i64 (p0.length : Int), .int .i64 0] [] (by kernel_rfl) (trivial) ?_
 refine RW.nil ?_
 refine WPK.block ?_
 refine WPK.loop' (J := fun n1 D1 ds wz => ∀ X : Kont, (∀ (I1 : Nat → Prop) (x1 : Int) (w' : World), g12_l1 p0 n1 x1 = some r → St w1 M I1 (F) w' → Kp I w I1 w' → Elems rp_T_api_Node I1 w' A1 p0 → X [(gd D1 0), (gd D1 1), .bool false, (gd D1 3), (gd D1 4), (gd D1 5), (gd D1 6), (gd D1 7), (gd D1 8), .slice A1 p0.length u1, .int .i64 (p0.length : Int), .int .i64 x1, (gd D1 12), (gd D1 13), (gd D1 14), (gd D1 15), (gd D1 16), (gd D1 17), (gd D1 18), (gd D1 19), (gd D1 20), (gd D1 21), (gd D1 22), (gd D1 23), (gd D1 24), (gd D1 25), (gd D1 26), (gd D1 27), (gd D1 28), (gd D1 29), (gd D1 30), (gd D1 31), (gd D1 32), (gd D1 33), (gd D1 34), (gd D1 35), (gd D1 36), (gd D1 37), (gd D1 38), (gd D1 39), (gd D1 40), (gd D1 41), (gd D1 42), (gd D1 43), (gd D1 44), (gd D1 45), (gd D1 46), (gd D1 47), (gd D1 48), (gd D1 49), (gd D1 50), (gd D1 51), (gd D1 52), (gd D1 53), (gd D1 54), (gd D1 55), (gd D1 56), (gd D1 57), (gd D1 58), (gd D1 59), (gd D1 60)] [] w') → X D1 ds wz) FUEL (fun X h => kc (by kernel_rfl) rfl (h I 0 _ hf s kk e1)) (fun _ _ _ hJ => hJ (fun _ _ _ => False) (by intro I1 x1 w2 hf s kk e1; exact noneS hf)) ?_
 intro X1 hX1
 refine fun n1 D1 _ _ hJ => hJ (X1 n1) ?_
 clear s
 intro I1 x1 w2 hf s kk e1
 refine hX1 _ _ _ _ ?_
 replace hf : g12_l1B p0 (g12_l1 p0 n1) x1 = some r := hf
 generalize hrec1 : g12_l1 p0 n1 = rec1 at hf
 unfold g12_l1B at hf
 refine WPK.seq ?_
 refine WPK.region ?_
 refine RW.seg hT 1 [] [] [.bool (decide (x1 < (p0.length : Int)))] [] (by kernel_rfl) (trivial) ?_
 refine RW.nil ?_
 refine WPK.seq ?_
 by_cases h1 : x1 < (p0.length : Int)
 have hf := iteT h1 hf
 refine WPK.condT (Eq.trans (b := .bool (decide (x1 < (p0.length : Int)))) (by kernel_rfl) (bo_t h1)) ?_
 refine WPK.skip ?_
 refine WPK.seq ?_
 refine WPK.block ?_
 refine WPK.seq ?_
 refine WPK.region ?_
 obtain ⟨x2, hx1, hf⟩ := bindS hf
 obtain ⟨h2, hx1⟩ := getS hx1
 obtain ⟨b1, o1, rfl⟩ := Elems.opn e1 hx1
 obtain ⟨cs1, hr1, ha1⟩ := Elems.get e1 hx1
 obtain ⟨cs2, cs3, rfl, hr2, hr3⟩ := hr1
 obtain rfl : cs2 = [.bool x2.Leaf] := hr2
 obtain ⟨cs4, cs5, rfl, hr4, hr5⟩ := hr3
 obtain ⟨A2, u2, rfl, q1, q2, e2⟩ := hr4
 have hc2 := And.intro q1 q2
 obtain ⟨cs6, cs7, rfl, hr6, hr7⟩ := hr5
 obtain ⟨A3, u3, rfl, q3, q4, e3⟩ := hr6
 have hc3 := And.intro q3 q4
 obtain ⟨A4, u4, rfl, q5, q6, e4⟩ := hr7
 have hc4 := And.intro q5 q6
 refine RW.seg hT 2 [.agg #[.bool x2.Leaf, .slice A2 x2.Pairs.length u2, .slice A3 x2.Keys.length u3, .slice A4 x2.Kids.length u4]] [] [.pointer (some ⟨b1, o1 + x1.toNat * 4, none⟩), .agg #[.bool x2.Leaf, .slice A2 x2.Pairs.length u2, .slice A3 x2.Keys.length u3, .slice A4 x2.Kids.length u4]] [.idx x1 p0.length, .cells ⟨b1, o1 + x1.toNat * 4, none⟩ [.bool x2.Leaf, .slice A2 x2.Pairs.length u2, .slice A3 x2.Keys.length u3, .slice A4 x2.Kids.length u4] 4] (by kernel_rfl) (⟨h2, at_cells ha1 (off := 0) rfl rfl⟩) ?_
 refine RW.op (by kernel_rfl) (OK.new hT (f := fun b => .pointer (some ⟨b, 0, none⟩)) (cs := [.bool false, .slice none 0 0, .slice none 0 0, .slice none 0 0]) (e := 26) (c := .tt) s (by kernel_rfl) trivial ?_)
 clear s
 rintro w3 b2 s k1 -
 replace e1 := e1.st k1
 replace e2 := e2.st k1
 replace e3 := e3.st k1
 replace e4 := e4.st k1
 replace kk := kk.trans k1
 refine RW.op (by kernel_rfl) (OK.store hT (i := 0) (b := b2) (off := 0) (n := 4) (vs := [.bool x2.Leaf, .slice A2 x2.Pairs.length u2, .slice A3 x2.Keys.length u3, .slice A4 x2.Kids.length u4]) (cs := [.bool false, .slice none 0 0, .slice none 0 0, .slice none 0 0]) (e := 26) s (by kernel_rfl) rfl rfl (flat_ok rfl) (Nat.le_of_ble_eq_true rfl) ?_)
 clear s
 rintro w4 s k2 -
 replace e1 := e1.st k2
 replace e2 := e2.st k2
 replace e3 := e3.st k2
 replace e4 := e4.st k2
 replace kk := kk.trans k2
 refine RW.nil ?_
 refine WPK.seq ?_
 refine WPK.seq ?_
 refine WPK.cut' (Kn fun D2 ds wz => ∀ X : Kont, (∀ (x3 : Bool) (x4 : Bool) (x5 : Bool) (x6 : Bool), g12_j2 x1 rec1 x2 x3 x4 x5 x6 = some r → X [(gd D2 0), (gd D2 1), .bool false, (gd D2 3), .pointer (some ⟨b2, 0, none⟩), (gd D2 5), (gd D1 6), (gd D2 7), (gd D1 8), .slice (some ⟨b1, o1, none⟩) p0.length u1, .int .i64 (p0.length : Int), .int .i64 x1, .bool (decide (x1 < (p0.length : Int))), .pointer (some ⟨b1, o1 + x1.toNat * 4, none⟩), .agg #[.bool x2.Leaf, .slice A2 x2.Pairs.length u2, .slice A3 x2.Keys.length u3, .slice A4 x2.Kids.length u4], .pointer (some ⟨b2, 1, none⟩), .slice A2 x2.Pairs.length u2, .int .i64 (x2.Pairs.length : Int), .bool (decide ((x2.Pairs.length : Int) > 300)), .bool x3, (gd D2 20), (gd D2 21), (gd D2 22), (gd D2 23), .bool x4, .bool x5, (gd D2 26), (gd D2 27), (gd D2 28), (gd D2 29), .bool x6, (gd D1 31), (gd D1 32), (gd D1 33), (gd D1 34), (gd D1 35), (gd D1 36), (gd D1 37), (gd D1 38), (gd D1 39), (gd D1 40), (gd D1 41), (gd D1 42), (gd D1 43), (gd D1 44), (gd D1 45), (gd D1 46), (gd D1 47), (gd D1 48), (gd D1 49), (gd D1 50), (gd D1 51), (gd D1 52), (gd D1 53), (gd D1 54), (gd D1 55), (gd D1 56), (gd D1 57), (gd D1 58), (gd D1 59), (gd D1 60)] [] w4) → X D2 ds wz) ?_ ?_
 intro X2 hX2
 refine fun D2 _ _ hJ => hJ X2 ?_
 intro x3 x4 x5 x6 hf
 refine hX2 _ _ _ ?_
 unfold g12_j2 at hf
 by_cases h3 : x6 = true
 have hf := iteT h3 hf
 refine WPK.condT (Eq.trans (b := .bool x6) (by kernel_rfl) (b_t h3)) ?_
 refine WPK.seq ?_
 refine WPK.region ?_
 refine RW.seg hT 1 [] [] [.bool false] [] (by kernel_rfl) (trivial) ?_
 refine RW.nil ?_
 refine WPK.ret (blockQ.ret (blockQ.ret (?_)))
 obtain rfl := someS hf
 refine Fin.of (rs := [.tmp 2]) hT [] (.bool false) [] rfl (by kernel_rfl) (trivial) ?_
 replace s := s.pick [] 1 rfl
 exact fun X h => vc rfl (h I1 _ s kk)
 have hf := iteF h3 hf
 refine WPK.condF (Eq.trans (b := .bool x6) (by kernel_rfl) (b_f h3)) ?_
 refine WPK.skip ?_
 refine WPK.seq ?_
 refine WPK.seq ?_
 refine WPK.region ?_
 refine RW.seg hT 4 [.slice A2 x2.Pairs.length u2] [] [.pointer (some ⟨b2, 1, none⟩), .slice A2 x2.Pairs.length u2, .int .i64 (x2.Pairs.length : Int), .int .i64 0] [.cell ⟨b2, 1, none⟩ (.slice A2 x2.Pairs.length u2)] (by kernel_rfl) (s.cell (i := 0) (off := 1) rfl rfl) ?_
 refine RW.nil ?_
 refine WPK.block ?_
 refine WPK.loop' (J := fun n2 D3 ds wz => ∀ X : Kont, (∀ (I2 : Nat → Prop) (x7 : Int) (d1 : Value) (w' : World), g12_l3 x1 rec1 x2 n2 x7 = some r → St w1 M I2 ((.blk b2 (.cells #[.bool x2.Leaf, .slice A2 x2.Pairs.length u2, .slice A3 x2.Keys.length u3, .slice A4 x2.Kids.length u4] 26 (0, 0))) :: F) w' → Kp I w I2 w' → Elems rp_T_api_Node I2 w' (some ⟨b1, o1, none⟩) p0 → Elems rp_T_api_Pair I2 w' A2 x2.Pairs → Elems (Rp.slice (Rp.int .u8)) I2 w' A3 x2.Keys → Elems (Rp.int .i64) I2 w' A4 x2.Kids → X [(gd D3 0), (gd D3 1), .bool false, (gd D3 3), .pointer (some ⟨b2, 0, none⟩), (gd D3 5), (gd D3 6), (gd D3 7), (gd D1 8), .slice (some ⟨b1, o1, none⟩) p0.length u1, .int .i64 (p0.length : Int), .int .i64 x1, .bool (decide (x1 < (p0.length : Int))), d1, .agg #[.bool x2.Leaf, .slice A2 x2.Pairs.length u2, .slice A3 x2.Keys.length u3, .slice A4 x2.Kids.length u4], .pointer (some ⟨b2, 1, none⟩), .slice A2 x2.Pairs.length u2, .int .i64 (x2.Pairs.length : Int), .bool (decide ((x2.Pairs.length : Int) > 300)), .bool x3, (gd D2 20), (gd D2 21), (gd D2 22), (gd D2 23), .bool x4, .bool x5, (gd D2 26), (gd D2 27), (gd D2 28), (gd D2 29), .bool x6, .pointer (some ⟨b2, 1, none⟩), .slice A2 x2.Pairs.length u2, .int .i64 (x2.Pairs.length : Int), .int .i64 x7, (gd D3 35), (gd D3 36), (gd D3 37), (gd D3 38), (gd D3 39), (gd D3 40), (gd D3 41), (gd D3 42), (gd D3 43), (gd D3 44), (gd D3 45), (gd D3 46), (gd D3 47), (gd D3 48), (gd D1 49), (gd D1 50), (gd D1 51), (gd D1 52), (gd D1 53), (gd D1 54), (gd D1 55), (gd D1 56), (gd D1 57), (gd D1 58), (gd D1 59), (gd D1 60)] [] w') → X D3 ds wz) FUEL (fun X h => kc (by kernel_rfl) rfl (h I1 0 (.pointer (some ⟨b1, o1 + x1.toNat * 4, none⟩)) _ hf s kk e1 e2 e3 e4)) (fun _ _ _ hJ => hJ (fun _ _ _ => False) (by intro I2 x7 d1 w5 hf s kk e1 e2 e3 e4; exact noneS hf)) ?_
 intro X3 hX3
 refine fun n2 D3 _ _ hJ => hJ (X3 n2) ?_
 clear s
 intro I2 x7 d1 w5 hf s kk e1 e2 e3 e4
 refine hX3 _ _ _ _ ?_
 replace hf : g12_l3B x1 rec1 x2 (g12_l3 x1 rec1 x2 n2) x7 = some r := hf
 generalize hrec2 : g12_l3 x1 rec1 x2 n2 = rec2 at hf
 unfold g12_l3B at hf
 refine WPK.seq ?_
 refine WPK.region ?_
 refine RW.seg hT 1 [] [] [.bool (decide (x7 < (x2.Pairs.length : Int)))] [] (by kernel_rfl) (trivial) ?_
 refine RW.nil ?_
 refine WPK.seq ?_
 by_cases h4 : x7 < (x2.Pairs.length : Int)
 have hf := iteT h4 hf
 refine WPK.condT (Eq.trans (b := .bool (decide (x7 < (x2.Pairs.length : Int)))) (by kernel_rfl) (bo_t h4)) ?_
 refine WPK.skip ?_
 refine WPK.seq ?_
 refine WPK.block ?_
 refine WPK.seq ?_
 refine WPK.region ?_
 obtain ⟨x8, hx2, hf⟩ := bindS hf
 obtain ⟨h5, hx2⟩ := getS hx2
 obtain ⟨b3, o2, rfl⟩ := Elems.opn e2 hx2
 obtain ⟨cs8, hr8, ha2⟩ := Elems.get e2 hx2
 obtain ⟨cs9, cs10, rfl, hr9, hr10⟩ := hr8
 obtain ⟨A5, u5, rfl, q7, q8, e5⟩ := hr9
 have hc5 := And.intro q7 q8
 obtain ⟨A6, u6, rfl, q9, q10, e6⟩ := hr10
 have hc6 := And.intro q9 q10
 refine RW.seg hT 2 [.agg #[.slice A5 x8.Key.length u5, .slice A6 x8.Val.length u6]] [] [.pointer (some ⟨b3, o2 + x7.toNat * 2, none⟩), .agg #[.slice A5 x8.Key.length u5, .slice A6 x8.Val.length u6]] [.idx x7 x2.Pairs.length, .cells ⟨b3, o2 + x7.toNat * 2, none⟩ [.slice A5 x8.Key.length u5, .slice A6 x8.Val.length u6] 2] (by kernel_rfl) (⟨h5, at_cells ha2 (off := 0) rfl rfl⟩) ?_
 refine RW.op (by kernel_rfl) (OK.new hT (f := fun b => .pointer (some ⟨b, 0, none⟩)) (cs := [.slice none 0 0, .slice none 0 0]) (e := 48) (c := .tt) s (by kernel_rfl) trivial ?_)
 clear s
 rintro w6 b4 s k3 -
 replace e1 := e1.st k3
 replace e2 := e2.st k3
 replace e3 := e3.st k3
 replace e4 := e4.st k3
 replace e5 := e5.st k3
 replace e6 := e6.st k3
 replace kk := kk.trans k3
 refine RW.op (by kernel_rfl) (OK.store hT (i := 0) (b := b4) (off := 0) (n := 2) (vs := [.slice A5 x8.Key.length u5, .slice A6 x8.Val.length u6]) (cs := [.slice none 0 0, .slice none 0 0]) (e := 48) s (by kernel_rfl) rfl rfl (flat_ok rfl) (Nat.le_of_ble_eq_true rfl) ?_)
 clear s
 rintro w7 s k4 -
 replace e1 := e1.st k4
 replace e2 := e2.st k4
 replace e3 := e3.st k4
 replace e4 := e4.st k4
 replace e5 := e5.st k4
 replace e6 := e6.st k4
 replace kk := kk.trans k4
 refine RW.nil ?_
 refine WPK.seq ?_
 refine WPK.region ?_
 refine RW.seg hT 4 [.slice A5 x8.Key.length u5] [] [.pointer (some ⟨b4, 0, none⟩), .slice A5 x8.Key.length u5, .int .i64 (x8.Key.length : Int), .bool (decide ((x8.Key.length : Int) > 300))] [.cell ⟨b4, 0, none⟩ (.slice A5 x8.Key.length u5)] (by kernel_rfl) (s.cell (i := 0) (off := 0) rfl rfl) ?_
 by_cases h6 : (x8.Key.length : Int) > 300
 have hf := iteT h6 hf
 refine RW.seg hT 6 [] [(42, .bool true)] [.bool true, undef, undef, undef, undef, .bool true] [.veq (.bool (decide ((x8.Key.length : Int) > 300))) (.bool true)] (by kernel_rfl) (bo_t h6) ?_
 refine RW.nil ?_
 refine WPK.condT (by kernel_rfl) ?_
 refine WPK.seq ?_
 refine WPK.region ?_
 refine RW.seg hT 1 [] [] [.bool false] [] (by kernel_rfl) (trivial) ?_
 refine RW.nil ?_
 refine WPK.ret (blockQ.ret (blockQ.ret (blockQ.ret (blockQ.ret (?_)))))
 obtain rfl := someS hf
 refine Fin.of (rs := [.tmp 2]) hT [] (.bool false) [] rfl (by kernel_rfl) (trivial) ?_
 replace s := s.pick [] 2 rfl
 exact fun X h => vc rfl (h I2 _ s kk)
 have hf := iteF h6 hf
 refine RW.seg hT 6 [.slice A6 x8.Val.length u6] [(42, .bool false)] [.bool false, .pointer (some ⟨b4, 1, none⟩), .slice A6 x8.Val.length u6, .int .i64 (x8.Val.length : Int), .bool (decide ((x8.Val.length : Int) > 300)), .bool (decide ((x8.Val.length : Int) > 300))] [.veq (.bool (decide ((x8.Key.length : Int) > 300))) (.bool false), .cell ⟨b4, 1, none⟩ (.slice A6 x8.Val.length u6)] (by kernel_rfl) (⟨bo_f h6, s.cell (i := 0) (off := 1) rfl rfl⟩) ?_
 refine RW.nil ?_
 by_cases h7 : (x8.Val.length : Int) > 300
 have hf := iteT h7 hf
 refine WPK.condT (Eq.trans (b := .bool (decide ((x8.Val.length : Int) > 300))) (by kernel_rfl) (bo_t h7)) ?_
 refine WPK.seq ?_
 refine WPK.region ?_
 refine RW.seg hT 1 [] [] [.bool false] [] (by kernel_rfl) (trivial) ?_
 refine RW.nil ?_
 refine WPK.ret (blockQ.ret (blockQ.ret (blockQ.ret (blockQ.ret (?_)))))
 obtain rfl := someS hf
 refine Fin.of (rs := [.tmp 2]) hT [] (.bool false) [] rfl (by kernel_rfl) (trivial) ?_
 replace s := s.pick [] 2 rfl
 exact fun X h => vc rfl (h I2 _ s kk)
 have hf := iteF h7 hf
 refine WPK.condF (Eq.trans (b := .bool (decide ((x8.Val.length : Int) > 300))) (by kernel_rfl) (bo_f h7)) ?_
 refine WPK.skip ?_
 refine WPK.region ?_
 refine RW.seg hT 2 [] [] [.int .i64 (IntKind.i64.wrap (x7 + 1)), .int .i64 (IntKind.i64.wrap (x7 + 1))] [] (by kernel_rfl) (trivial) ?_
 refine RW.nil ?_
 subst hrec2
 replace s := s.pick [1] 2 rfl
 exact ⟨n2, Nat.le_refl _, fun X h => kc (by kernel_rfl) rfl (h I2 (IntKind.i64.wrap (x7 + 1)) (d1) _ hf s kk e1 e2 e3 e4)⟩
 have hf := iteF h4 hf
 refine WPK.condF (Eq.trans (b := .bool (decide (x7 < (x2.Pairs.length : Int)))) (by kernel_rfl) (bo_f h4)) ?_
 refine WPK.exit (blockQ.same ?_)
 refine WPK.seq ?_
 refine WPK.region ?_
 refine RW.seg hT 4 [.slice A3 x2.Keys.length u3] [] [.pointer (some ⟨b2, 2, none⟩), .slice A3 x2.Keys.length u3, .int .i64 (x2.Keys.length : Int), .int .i64 0] [.cell ⟨b2, 2, none⟩ (.slice A3 x2.Keys.length u3)] (by kernel_rfl) (s.cell (i := 0) (off := 2) rfl rfl) ?_
 refine RW.nil ?_
 refine WPK.block ?_
 refine WPK.loop' (J := fun n3 D4 ds wz => ∀ X : Kont, (∀ (x9 : Int), g12_l4 x1 rec1 x2 n3 x9 = some r → X [(gd D4 0), (gd D4 1), .bool false, (gd D4 3), .pointer (some ⟨b2, 0, none⟩), (gd D4 5), (gd D3 6), (gd D4 7), (gd D4 8), .slice (some ⟨b1, o1, none⟩) p0.length u1, .int .i64 (p0.length : Int), .int .i64 x1, .bool (decide (x1 < (p0.length : Int))), d1, .agg #[.bool x2.Leaf, .slice A2 x2.Pairs.length u2, .slice A3 x2.Keys.length u3, .slice A4 x2.Kids.length u4], .pointer (some ⟨b2, 1, none⟩), .slice A2 x2.Pairs.length u2, .int .i64 (x2.Pairs.length : Int), .bool (decide ((x2.Pairs.length : Int) > 300)), .bool x3, (gd D2 20), (gd D2 21), (gd D2 22), (gd D2 23), .bool x4, .bool x5, (gd D2 26), (gd D2 27), (gd D2 28), (gd D2 29), .bool x6, .pointer (some ⟨b2, 1, none⟩), .slice A2 x2.Pairs.length u2, .int .i64 (x2.Pairs.length : Int), .int .i64 x7, .bool (decide (x7 < (x2.Pairs.length : Int))), (gd D3 36), (gd D3 37), (gd D3 38), (gd D3 39), (gd D3 40), (gd D3 41), (gd D3 42), (gd D3 43), (gd D3 44), (gd D3 45), (gd D3 46), (gd D3 47), (gd D3 48), .pointer (some ⟨b2, 2, none⟩), .slice A3 x2.Keys.length u3, .int .i64 (x2.Keys.length : Int), .int .i64 x9, (gd D4 53), (gd D4 54), (gd D4 55), (gd D4 56), (gd D4 57), (gd D4 58), (gd D4 59), (gd D1 60)] [] w5) → X D4 ds wz) FUEL (fun X h => kc (by kernel_rfl) rfl (h 0 hf)) (fun _ _ _ hJ => hJ (fun _ _ _ => False) (by intro x9 hf; exact noneS hf)) ?_
 intro X4 hX4
 refine fun n3 D4 _ _ hJ => hJ (X4 n3) ?_
 intro x9 hf
 refine hX4 _ _ _ _ ?_
 replace hf : g12_l4B x1 rec1 x2 (g12_l4 x1 rec1 x2 n3) x9 = some r := hf
 generalize hrec3 : g12_l4 x1 rec1 x2 n3 = rec3 at hf
 unfold g12_l4B at hf
 refine WPK.seq ?_
 refine WPK.region ?_
 refine RW.seg hT 1 [] [] [.bool (decide (x9 < (x2.Keys.length : Int)))] [] (by kernel_rfl) (trivial) ?_
 refine RW.nil ?_
 refine WPK.seq ?_
 by_cases h8 : x9 < (x2.Keys.length : Int)
 have hf := iteT h8 hf
 refine WPK.condT (Eq.trans (b := .bool (decide (x9 < (x2.Keys.length : Int)))) (by kernel_rfl) (bo_t h8)) ?_
 refine WPK.skip ?_
 refine WPK.seq ?_
 refine WPK.block ?_
 refine WPK.seq ?_
 refine WPK.region ?_
 obtain ⟨x10, hx3, hf⟩ := bindS hf
 obtain ⟨h9, hx3⟩ := getS hx3
 obtain ⟨b5, o3, rfl⟩ := Elems.opn e3 hx3
 obtain ⟨cs11, hr11, ha3⟩ := Elems.get e3 hx3
 obtain ⟨A7, u7, rfl, q11, q12, e7⟩ := hr11
 have hc7 := And.intro q11 q12
 refine RW.seg hT 3 [.slice A7 x10.length u7] [] [.pointer (some ⟨b5, o3 + x9.toNat * 1, none⟩), .slice A7 x10.length u7, .slice A7 x10.length u7] [.idx x9 x2.Keys.length, .cell ⟨b5, o3 + x9.toNat * 1, none⟩ (.slice A7 x10.length u7)] (by kernel_rfl) (⟨h9, ha3 0 _ rfl⟩) ?_
 refine RW.nil ?_
 refine WPK.seq ?_
 refine WPK.region ?_
 refine RW.seg hT 3 [] [] [.slice A7 x10.length u7, .int .i64 (x10.length : Int), .bool (decide ((x10.length : Int) > 300))] [] (by kernel_rfl) (trivial) ?_
 refine RW.nil ?_
 by_cases h10 : (x10.length : Int) > 300
 have hf := iteT h10 hf
 refine WPK.condT (Eq.trans (b := .bool (decide ((x10.length : Int) > 300))) (by kernel_rfl) (bo_t h10)) ?_
 refine WPK.seq ?_
 refine WPK.region ?_
 refine RW.seg hT 1 [] [] [.bool false] [] (by kernel_rfl) (trivial) ?_
 refine RW.nil ?_
 refine WPK.ret (blockQ.ret (blockQ.ret (blockQ.ret (blockQ.ret (?_)))))
 obtain rfl := someS hf
 refine Fin.of (rs := [.tmp 2]) hT [] (.bool false) [] rfl (by kernel_rfl) (trivial) ?_
 replace s := s.pick [] 1 rfl
 exact fun X h => vc rfl (h I2 _ s kk)
 have hf := iteF h10 hf
 refine WPK.condF (Eq.trans (b := .bool (decide ((x10.length : Int) > 300))) (by kernel_rfl) (bo_f h10)) ?_
 refine WPK.skip ?_
 refine WPK.region ?_
 refine RW.seg hT 2 [] [] [.int .i64 (IntKind.i64.wrap (x9 + 1)), .int .i64 (IntKind.i64.wrap (x9 + 1))] [] (by kernel_rfl) (trivial) ?_
 refine RW.nil ?_
 subst hrec3
 exact ⟨n3, Nat.le_refl _, fun X h => kc (by kernel_rfl) rfl (h (IntKind.i64.wrap (x9 + 1)) hf)⟩
 have hf := iteF h8 hf
 refine WPK.condF (Eq.trans (b := .bool (decide (x9 < (x2.Keys.length : Int)))) (by kernel_rfl) (bo_f h8)) ?_
 refine WPK.exit (blockQ.same ?_)
 refine WPK.region ?_
 refine RW.seg hT 2 [] [] [.int .i64 (IntKind.i64.wrap (x1 + 1)), .int .i64 (IntKind.i64.wrap (x1 + 1))] [] (by kernel_rfl) (trivial) ?_
 refine RW.nil ?_
 subst hrec1
 replace s := s.pick [] 1 rfl
 exact ⟨n1, Nat.le_refl _, fun X h => kc (by kernel_rfl) rfl (h I2 (IntKind.i64.wrap (x1 + 1)) _ hf s kk e1)⟩
 refine WPK.region ?_
 refine RW.seg hT 4 [.slice A2 x2.Pairs.length u2] [] [.pointer (some ⟨b2, 1, none⟩), .slice A2 x2.Pairs.length u2, .int .i64 (x2.Pairs.length : Int), .bool (decide ((x2.Pairs.length : Int) > 300))] [.cell ⟨b2, 1, none⟩ (.slice A2 x2.Pairs.length u2)] (by kernel_rfl) (s.cell (i := 0) (off := 1) rfl rfl) ?_
 by_cases h11 : (x2.Pairs.length : Int) > 300
 have hf := iteT h11 hf
 refine RW.seg hT 12 [] [(19, .bool true)] [.bool true, undef, undef, undef, undef, .bool true, .bool true, undef, undef, undef, undef, .bool true] [.veq (.bool (decide ((x2.Pairs.length : Int) > 300))) (.bool true)] (by kernel_rfl) (bo_t h11) ?_
 refine RW.nil ?_
 exact fun X h => kc (by kernel_rfl) rfl (h true true true true hf)
 have hf := iteF h11 hf
 refine RW.seg hT 6 [.slice A3 x2.Keys.length u3] [(19, .bool false)] [.bool false, .pointer (some ⟨b2, 2, none⟩), .slice A3 x2.Keys.length u3, .int .i64 (x2.Keys.length : Int), .bool (decide ((x2.Keys.length : Int) > 300)), .bool (decide ((x2.Keys.length : Int) > 300))] [.veq (.bool (decide ((x2.Pairs.length : Int) > 300))) (.bool false), .cell ⟨b2, 2, none⟩ (.slice A3 x2.Keys.length u3)] (by kernel_rfl) (⟨bo_f h11, s.cell (i := 0) (off := 2) rfl rfl⟩) ?_
 by_cases h12 : (x2.Keys.length : Int) > 300
 have hf := iteT h12 hf
 refine RW.seg hT 6 [] [(25, .bool true)] [.bool true, undef, undef, undef, undef, .bool true] [.veq (.bool (decide ((x2.Keys.length : Int) > 300))) (.bool true)] (by kernel_rfl) (bo_t h12) ?_
 refine RW.nil ?_
 exact fun X h => kc (by kernel_rfl) rfl (h false (decide ((x2.Keys.length : Int) > 300)) true true hf)
 have hf := iteF h12 hf
 refine RW.seg hT 6 [.slice A4 x2.Kids.length u4] [(25, .bool false)] [.bool false, .pointer (some ⟨b2, 3, none⟩), .slice A4 x2.Kids.length u4, .int .i64 (x2.Kids.length : Int), .bool (decide ((x2.Kids.length : Int) > 300)), .bool (decide ((x2.Kids.length : Int) > 300))] [.veq (.bool (decide ((x2.Keys.length : Int) > 300))) (.bool false), .cell ⟨b2, 3, none⟩ (.slice A4 x2.Kids.length u4)] (by kernel_rfl) (⟨bo_f h12, s.cell (i := 0) (off := 3) rfl rfl⟩) ?_
 refine RW.nil ?_
 exact fun X h => kc (by kernel_rfl) rfl (h false (decide ((x2.Keys.length : Int) > 300)) false (decide ((x2.Kids.length : Int) > 300)) hf)
 have hf := iteF h1 hf
 refine WPK.condF (Eq.trans (b := .bool (decide (x1 < (p0.length : Int)))) (by kernel_rfl) (bo_f h1)) ?_
 refine WPK.exit (blockQ.same ?_)
 refine WPK.seq ?_
 refine WPK.region ?_
 refine RW.seg hT 1 [] [] [.bool true] [] (by kernel_rfl) (trivial) ?_
 refine RW.nil ?_
 refine WPK.ret (?_)
 obtain rfl := someS hf
 refine Fin.of (rs := [.tmp 2]) hT [] (.bool true) [] rfl (by kernel_rfl) (trivial) ?_
 exact fun X h => vc rfl (h I1 _ s kk)
end Go.Proofs.Ytefjbhogpgihaaa
