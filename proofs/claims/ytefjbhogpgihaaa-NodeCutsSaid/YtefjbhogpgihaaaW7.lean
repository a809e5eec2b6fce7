/- PRINTED BY sy.py: each call computes what the plain function of its number tells. -/
import Derived.Test.YtefjbhogpgihaaaW6
namespace Go.Proofs.Ytefjbhogpgihaaa
open Go Go.SX Go.RowKit
set_option maxRecDepth 100000
set_option linter.unusedVariables false
attribute [local irreducible] WPK RW RD Ret SX.Fin SX.Any opK RoundBeg RoundEnd RangeEnd Rounds
theorem c38 {w1 w : World} {M I : Nat → Prop} {F : List It} (p0 : T_api_Node) (p1 : (List Int)) (p2 : T_api_Node) (A1 : Option Addr) (u1 : Nat) (A2 : Option Addr) (u2 : Nat) (A3 : Option Addr) (u3 : Nat) (A4 : Option Addr) (u4 : Nat) (A5 : Option Addr) (u5 : Nat) (A6 : Option Addr) (u6 : Nat) (A7 : Option Addr) (u7 : Nat) (hc1 : (p0.Pairs.length ≤ u1 ∧ u1 ≤ 9223372036854775807)) (e1 : Elems rp_T_api_Pair I w A1 p0.Pairs) (hc2 : (p0.Keys.length ≤ u2 ∧ u2 ≤ 9223372036854775807)) (e2 : Elems (Rp.slice (Rp.int .u8)) I w A2 p0.Keys) (hc3 : (p0.Kids.length ≤ u3 ∧ u3 ≤ 9223372036854775807)) (e3 : Elems (Rp.int .i64) I w A3 p0.Kids) (hc4 : (p1.length ≤ u4 ∧ u4 ≤ 9223372036854775807)) (e4 : Elems (Rp.int .u8) I w A4 p1) (hc5 : (p2.Pairs.length ≤ u5 ∧ u5 ≤ 9223372036854775807)) (e5 : Elems rp_T_api_Pair I w A5 p2.Pairs) (hc6 : (p2.Keys.length ≤ u6 ∧ u6 ≤ 9223372036854775807)) (e6 : Elems (Rp.slice (Rp.int .u8)) I w A6 p2.Keys) (hc7 : (p2.Kids.length ≤ u7 ∧ u7 ≤ 9223372036854775807)) (e7 : Elems (Rp.int .i64) I w A7 p2.Kids) (s : St w1 M I (F) w) {r : (T_api_Node × Int)} (hf : g38 p0 p1 p2 = some r) :
   Ret Try.prog 38 [.agg #[.bool p0.Leaf, .slice A1 p0.Pairs.length u1, .slice A2 p0.Keys.length u2, .slice A3 p0.Kids.length u3], .slice A4 p1.length u4, .agg #[.bool p2.Leaf, .slice A5 p2.Pairs.length u5, .slice A6 p2.Keys.length u6, .slice A7 p2.Kids.length u7]] w fun v wz => ∀ X : Value → World → Prop, (∀ (I' : Nat → Prop) (A8 : Option Addr) (n1 : Nat) (u8 : Nat) (cl1 : List Value) (A9 : Option Addr) (n2 : Nat) (u9 : Nat) (cl2 : List Value) (A10 : Option Addr) (n3 : Nat) (u10 : Nat) (cl3 : List Value) (w' : World), St w1 M I' ((.sl (.slice A8 n1 u8) 48 2 n1 cl1) :: (.sl (.slice A9 n2 u9) 27 1 n2 cl2) :: (.sl (.slice A10 n3 u10) 3 1 n3 cl3) :: F) w' → Kp I w I' w' → n1 = r.1.Pairs.length → RepL rp_T_api_Pair I' w' cl1 r.1.Pairs → n2 = r.1.Keys.length → RepL (Rp.slice (Rp.int .u8)) I' w' cl2 r.1.Keys → n3 = r.1.Kids.length → RepL (Rp.int .i64) I' w' cl3 r.1.Kids → X (.tuple #[.agg #[.bool r.1.Leaf, .slice A8 n1 u8, .slice A9 n2 u9, .slice A10 n3 u10], .int .i64 r.2]) w') → X v wz := by
 have kk : Kp I w I w := Kp.refl
 unfold g38 at hf
 refine Ret.of Try.func38 rfl ?_
 refine WPK.seq ?_
 refine WPK.region ?_
 refine RW.op (by kernel_rfl) (OK.new hT (f := fun b => .pointer (some ⟨b, 0, none⟩)) (cs := [.bool p0.Leaf, .slice A1 p0.Pairs.length u1, .slice A2 p0.Keys.length u2, .slice A3 p0.Kids.length u3]) (e := 26) (c := .tt) s (by kernel_rfl) trivial ?_)
 clear s
 rintro w2 b1 s k1 -
 replace e1 := e1.st k1
 replace e2 := e2.st k1
 replace e3 := e3.st k1
 replace e4 := e4.st k1
 replace e5 := e5.st k1
 replace e6 := e6.st k1
 replace e7 := e7.st k1
 replace kk := kk.trans k1
 refine RW.op (by kernel_rfl) (OK.new hT (f := fun b => .pointer (some ⟨b, 0, none⟩)) (cs := [.bool p2.Leaf, .slice A5 p2.Pairs.length u5, .slice A6 p2.Keys.length u6, .slice A7 p2.Kids.length u7]) (e := 26) (c := .tt) s (by kernel_rfl) trivial ?_)
 clear s
 rintro w3 b2 s k2 -
 replace e1 := e1.st k2
 replace e2 := e2.st k2
 replace e3 := e3.st k2
 replace e4 := e4.st k2
 replace e5 := e5.st k2
 replace e6 := e6.st k2
 replace e7 := e7.st k2
 replace kk := kk.trans k2
 refine RW.op (by kernel_rfl) (OK.new hT (f := fun b => .pointer (some ⟨b, 0, none⟩)) (cs := [.bool false, .slice none 0 0, .slice none 0 0, .slice none 0 0]) (e := 26) (c := .tt) s (by kernel_rfl) trivial ?_)
 clear s
 rintro w4 b3 s k3 -
 replace e1 := e1.st k3
 replace e2 := e2.st k3
 replace e3 := e3.st k3
 replace e4 := e4.st k3
 replace e5 := e5.st k3
 replace e6 := e6.st k3
 replace e7 := e7.st k3
 replace kk := kk.trans k3
 refine RW.seg hT 1 [] [] [.int .i64 0] [] (by kernel_rfl) (trivial) ?_
 refine RW.nil ?_
 refine WPK.seq ?_
 refine WPK.seq ?_
 refine WPK.cut' (Kn fun D1 ds wz => ∀ X : Kont, (∀ (I1 : Nat → Prop) (x1 : Bool) (w' : World), g38_j1 p0 p1 p2 x1 = some r → St w1 M I1 ((.blk b3 (.cells #[.bool false, .slice none 0 0, .slice none 0 0, .slice none 0 0] 26 (0, 0))) :: (.blk b2 (.cells #[.bool p2.Leaf, .slice A5 p2.Pairs.length u5, .slice A6 p2.Keys.length u6, .slice A7 p2.Kids.length u7] 26 (0, 0))) :: (.blk b1 (.cells #[.bool p0.Leaf, .slice A1 p0.Pairs.length u1, .slice A2 p0.Keys.length u2, .slice A3 p0.Kids.length u3] 26 (0, 0))) :: F) w' → Kp I w I1 w' → Elems (Rp.int .u8) I1 w' A4 p1 → Elems rp_T_api_Pair I1 w' A5 p2.Pairs → Elems (Rp.slice (Rp.int .u8)) I1 w' A6 p2.Keys → Elems (Rp.int .i64) I1 w' A7 p2.Kids → Elems rp_T_api_Pair I1 w' A1 p0.Pairs → Elems (Rp.slice (Rp.int .u8)) I1 w' A2 p0.Keys → Elems (Rp.int .i64) I1 w' A3 p0.Kids → X [(gd D1 0), .slice A4 p1.length u4, (gd D1 2), .pointer (some ⟨b1, 0, none⟩), (gd D1 4), .pointer (some ⟨b2, 0, none⟩), .pointer (some ⟨b3, 0, none⟩), .int .i64 0, undef, (gd D1 9), (gd D1 10), (gd D1 11), (gd D1 12), (gd D1 13), (gd D1 14), (gd D1 15), (gd D1 16), (gd D1 17), (gd D1 18), (gd D1 19), (gd D1 20), (gd D1 21), (gd D1 22), .bool x1, undef, undef, undef, undef, undef, undef, undef, undef, undef, undef, undef, undef, undef, undef, undef, undef, undef, undef, undef, undef, undef, undef, undef, undef, undef, undef, undef, undef, undef, undef, undef, undef, undef, undef, undef, undef, undef, undef, undef, undef, undef, undef, undef, undef, undef, undef, undef, undef] [] w') → X D1 ds wz) ?_ ?_
 intro X1 hX1
 refine fun D1 _ _ hJ => hJ X1 ?_
 clear s
 intro I1 x1 w5 hf s kk e4 e5 e6 e7 e1 e2 e3
 refine hX1 _ _ _ ?_
 unfold g38_j1 at hf
 by_cases h1 : x1 = true
 have hf := iteT h1 hf
 refine WPK.condT (Eq.trans (b := .bool x1) (by kernel_rfl) (b_t h1)) ?_
 refine WPK.seq ?_
 refine WPK.region ?_
 refine RW.seg hT 1 [] [] [.agg #[.bool false, .slice none 0 0, .slice none 0 0, .slice none 0 0]] [] (by kernel_rfl) (trivial) ?_
 refine RW.op (by kernel_rfl) (OK.store hT (i := 0) (b := b3) (off := 0) (n := 4) (vs := [.bool false, .slice none 0 0, .slice none 0 0, .slice none 0 0]) (cs := [.bool false, .slice none 0 0, .slice none 0 0, .slice none 0 0]) (e := 26) s (by kernel_rfl) rfl rfl (flat_ok rfl) (Nat.le_of_ble_eq_true rfl) ?_)
 clear s
 rintro w6 s k4 -
 replace e4 := e4.st k4
 replace e5 := e5.st k4
 replace e6 := e6.st k4
 replace e7 := e7.st k4
 replace e1 := e1.st k4
 replace e2 := e2.st k4
 replace e3 := e3.st k4
 replace kk := kk.trans k4
 refine RW.seg hT 1 [] [] [.int .i64 100] [] (by kernel_rfl) (trivial) ?_
 refine RW.nil ?_
 refine WPK.ret (?_)
 obtain rfl := someS hf
 refine Fin.of (rs := [.cell 6 26, .tmp 7]) hT [.agg #[.bool false, .slice none 0 0, .slice none 0 0, .slice none 0 0]] (.tuple #[.agg #[.bool false, .slice none 0 0, .slice none 0 0, .slice none 0 0], .int .i64 100]) [.cells ⟨b3, 0, none⟩ [.bool false, .slice none 0 0, .slice none 0 0, .slice none 0 0] 4] rfl (by kernel_rfl) (s.cells (i := 0) rfl rfl rfl) ?_
 replace s := s.pushNil 48 2
 replace s := s.pushNil 27 1
 replace s := s.pushNil 3 1
 replace s := s.pick [2, 1, 0] 6 rfl
 exact fun X h => vc rfl (h I1 none 0 0 [] none 0 0 [] none 0 0 [] _ s kk rfl (RepL.nil (r := rp_T_api_Pair)) rfl (RepL.nil (r := (Rp.slice (Rp.int .u8)))) rfl (RepL.nil (r := (Rp.int .i64))))
 have hf := iteF h1 hf
 refine WPK.condF (Eq.trans (b := .bool x1) (by kernel_rfl) (b_f h1)) ?_
 refine WPK.skip ?_
 refine WPK.seq ?_
 refine WPK.region ?_
 refine RW.seg hT 3 [.bool p0.Leaf] [] [.pointer (some ⟨b1, 0, none⟩), .bool p0.Leaf, .agg #[.bool p0.Leaf, .slice none 0 0, .slice none 0 0, .slice none 0 0]] [.cell ⟨b1, 0, none⟩ (.bool p0.Leaf)] (by kernel_rfl) (s.cell (i := 2) (off := 0) rfl rfl) ?_
 refine RW.op (by kernel_rfl) (OK.new hT (f := fun b => .pointer (some ⟨b, 0, none⟩)) (cs := [.bool false, .slice none 0 0, .slice none 0 0, .slice none 0 0]) (e := 26) (c := .tt) s (by kernel_rfl) trivial ?_)
 clear s
 rintro w7 b4 s k5 -
 replace e4 := e4.st k5
 replace e5 := e5.st k5
 replace e6 := e6.st k5
 replace e7 := e7.st k5
 replace e1 := e1.st k5
 replace e2 := e2.st k5
 replace e3 := e3.st k5
 replace kk := kk.trans k5
 refine RW.op (by kernel_rfl) (OK.store hT (i := 0) (b := b4) (off := 0) (n := 4) (vs := [.bool p0.Leaf, .slice none 0 0, .slice none 0 0, .slice none 0 0]) (cs := [.bool false, .slice none 0 0, .slice none 0 0, .slice none 0 0]) (e := 26) s (by kernel_rfl) rfl rfl (flat_ok rfl) (Nat.le_of_ble_eq_true rfl) ?_)
 clear s
 rintro w8 s k6 -
 replace e4 := e4.st k6
 replace e5 := e5.st k6
 replace e6 := e6.st k6
 replace e7 := e7.st k6
 replace e1 := e1.st k6
 replace e2 := e2.st k6
 replace e3 := e3.st k6
 replace kk := kk.trans k6
 refine RW.nil ?_
 refine WPK.seq ?_
 refine WPK.seq ?_
 refine WPK.region ?_
 refine RW.seg hT 2 [.bool p0.Leaf] [] [.pointer (some ⟨b1, 0, none⟩), .bool p0.Leaf] [.cell ⟨b1, 0, none⟩ (.bool p0.Leaf)] (by kernel_rfl) (s.cell (i := 3) (off := 0) rfl rfl) ?_
 refine RW.nil ?_
 by_cases h2 : p0.Leaf = true
 have hf := iteT h2 hf
 refine WPK.condT (Eq.trans (b := .bool p0.Leaf) (by kernel_rfl) (b_t h2)) ?_
 refine WPK.seq ?_
 have e4S1 := e4
 have e5S1 := e5
 have e6S1 := e6
 have e7S1 := e7
 have e1S1 := e1
 have e2S1 := e2
 have e3S1 := e3
 have kS1 : Kp I1 w8 I1 w8 := Kp.refl
 refine WPK.drawM (fun w' => ∃ I' : Nat → Prop, St w1 M I' ((.blk b3 (.cells #[.bool false, .slice none 0 0, .slice none 0 0, .slice none 0 0] 26 (0, 0))) :: (.blk b2 (.cells #[.bool p2.Leaf, .slice A5 p2.Pairs.length u5, .slice A6 p2.Keys.length u6, .slice A7 p2.Kids.length u7] 26 (0, 0))) :: (.blk b1 (.cells #[.bool p0.Leaf, .slice A1 p0.Pairs.length u1, .slice A2 p0.Keys.length u2, .slice A3 p0.Kids.length u3] 26 (0, 0))) :: F) w' ∧ Kp I1 w8 I' w') 10 [0, 1, 0, 4, 15, 0, 32, 127, 255, 511] (by kernel_rfl) (by kernel_rfl) ?_
 intro ht1 w9 hd1
 have k7 := Kp.dr s hd1
 replace s := s.dr hd1
 replace e4 := e4.st k7
 replace e5 := e5.st k7
 replace e6 := e6.st k7
 replace e7 := e7.st k7
 replace e1 := e1.st k7
 replace e2 := e2.st k7
 replace e3 := e3.st k7
 replace kk := kk.trans k7
 replace kS1 := kS1.trans k7
 refine RD.segM hT ht1 (by kernel_rfl) [0, 2, 3, 5, 6] [.slice A1 p0.Pairs.length u1, .slice A5 p2.Pairs.length u5] [] [.pointer (some ⟨b4, 1, none⟩), .pointer (some ⟨b1, 1, none⟩), .slice A1 p0.Pairs.length u1, .pointer (some ⟨b2, 1, none⟩), .slice A5 p2.Pairs.length u5] [.cell ⟨b1, 1, none⟩ (.slice A1 p0.Pairs.length u1), .cell ⟨b2, 1, none⟩ (.slice A5 p2.Pairs.length u5)] (by kernel_rfl) (by rintro w' ⟨I', s, k⟩; have e4 := e4S1.st k; have e5 := e5S1.st k; have e6 := e6S1.st k; have e7 := e7S1.st k; have e1 := e1S1.st k; have e2 := e2S1.st k; have e3 := e3S1.st k; exact ⟨s.cell (i := 2) (off := 1) rfl rfl, s.cell (i := 1) (off := 1) rfl rfl⟩) ⟨_, s.pick [1, 2, 3] 4 rfl, kS1⟩ ?_
 refine RD.op (i := 1) rfl (by kernel_rfl) (by kernel_rfl) (OK.pure hT (ld := (.slice none 0 0)) (v := .slice none 0 0) (c := .cell ⟨b4, 1, none⟩ (.slice none 0 0)) (by kernel_rfl) (s.cell (i := 0) (off := 1) rfl rfl) ?_)
 refine ⟨fun _ => ⟨_, s.pick [1, 2, 3] 4 rfl, kS1⟩, RD.fold ?_⟩
 replace s := s.pushNil 48 2
 obtain ⟨nw1, hs1, rq1⟩ := Elems.src e1
 obtain ⟨x2, hx1, hf⟩ := bindS hf
 refine RD.op (i := 4) rfl (by kernel_rfl) (by kernel_rfl) (OK.app hT (r := rp_T_api_Pair) (i := 0) (t := 22) (e := 48) (size := 2) (bytes := 48) (c := 0) (n := 0) (m := p0.Pairs.length) s (by kernel_rfl) rfl rfl rfl rfl rfl (by decide) rfl rfl rfl rfl (RepL.nil (r := rp_T_api_Pair)) hs1 rq1 (flat_iso (flat_pair flat_slice flat_slice)) rfl hx1 ?_)
 clear s
 rintro A11 u11 cl4 w10 s k8 rp1
 replace e4 := e4.st k8
 replace e1 := e1.st k8
 replace e5 := e5.st k8
 replace e6 := e6.st k8
 replace e7 := e7.st k8
 replace e2 := e2.st k8
 replace e3 := e3.st k8
 replace kk := kk.trans k8
 replace kS1 := kS1.trans k8
 refine ⟨fun _ => ⟨_, s.pick [2, 3, 4] 5 rfl, kS1⟩, RD.fold ?_⟩
 obtain ⟨nw2, hs2, rq2⟩ := Elems.src e5
 obtain ⟨x3, hx2, hf⟩ := bindS hf
 refine RD.op (i := 7) rfl (by kernel_rfl) (by kernel_rfl) (OK.app hT (r := rp_T_api_Pair) (i := 0) (t := 22) (e := 48) (size := 2) (bytes := 48) (c := u11) (n := x2.length) (m := p2.Pairs.length) s (by kernel_rfl) rfl rfl rfl rfl rfl (by decide) rfl rfl rfl rfl rp1 hs2 rq2 (flat_iso (flat_pair flat_slice flat_slice)) rfl hx2 ?_)
 clear s
 rintro A12 u12 cl5 w11 s k9 rp2
 replace e4 := e4.st k9
 replace e1 := e1.st k9
 replace e5 := e5.st k9
 replace e6 := e6.st k9
 replace e7 := e7.st k9
 replace e2 := e2.st k9
 replace e3 := e3.st k9
 replace rp1 := rp1.st k9
 replace kk := kk.trans k9
 replace kS1 := kS1.trans k9
 refine ⟨fun _ => ⟨_, s.pick [2, 3, 4] 5 rfl, kS1⟩, RD.fold ?_⟩
 refine RD.segM hT ht1 (by kernel_rfl) [8] [] [] [.pointer (some ⟨b4, 1, none⟩)] [] (by kernel_rfl) (fun _ _ => trivial) ⟨_, s.pick [2, 3, 4] 5 rfl, kS1⟩ ?_
 refine RD.op (i := 9) rfl (by kernel_rfl) (by kernel_rfl) (OK.store hT (i := 1) (b := b4) (off := 1) (n := 1) (vs := [.slice A12 x3.length u12]) (cs := [.bool p0.Leaf, .slice none 0 0, .slice none 0 0, .slice none 0 0]) (e := 26) s (by kernel_rfl) rfl rfl (flat_ok rfl) (Nat.le_of_ble_eq_true rfl) ?_)
 clear s
 rintro w12 s k10 -
 replace e4 := e4.st k10
 replace e1 := e1.st k10
 replace e5 := e5.st k10
 replace e6 := e6.st k10
 replace e7 := e7.st k10
 replace e2 := e2.st k10
 replace e3 := e3.st k10
 replace rp2 := rp2.st k10
 replace kk := kk.trans k10
 replace kS1 := kS1.trans k10
 refine ⟨fun _ => ⟨_, s.pick [2, 3, 4] 5 rfl, kS1⟩, RD.fold ?_⟩
 refine RD.done (by kernel_rfl) ?_
 refine WPK.seq ?_
 refine WPK.region ?_
 refine RW.seg hT 1 [.agg #[.bool p0.Leaf, .slice A12 x3.length u12, .slice none 0 0, .slice none 0 0]] [] [.agg #[.bool p0.Leaf, .slice A12 x3.length u12, .slice none 0 0, .slice none 0 0]] [.cells ⟨b4, 0, none⟩ [.bool p0.Leaf, .slice A12 x3.length u12, .slice none 0 0, .slice none 0 0] 4] (by kernel_rfl) (s.cells (i := 1) rfl rfl rfl) ?_
 refine RW.op (by kernel_rfl) (OK.inl (args := [.agg #[.bool p0.Leaf, .slice A12 x3.length u12, .slice none 0 0, .slice none 0 0]]) en80 (by kernel_rfl) ?_)
 intro R1 hR1
 refine Ret.cut (fun v wz => ∀ X : Value → World → Prop, (∀ (I2 : Nat → Prop) (x4 : Bool) (x5 : (List T_api_Pair)) (x6 : (List Int)) (x7 : Int) (A13 : Option Addr) (u13 : Nat) (cl6 : List Value) (A14 : Option Addr) (u14 : Nat) (cl7 : List Value) (w' : World), g38_j2 x4 x5 x6 x7 = some r → St w1 M I2 ((.sl (.slice A12 x3.length u12) 48 2 x3.length cl5) :: (.blk b4 (.cells #[.bool p0.Leaf, .slice A12 x3.length u12, .slice none 0 0, .slice none 0 0] 26 (0, 0))) :: (.blk b3 (.cells #[.bool false, .slice none 0 0, .slice none 0 0, .slice none 0 0] 26 (0, 0))) :: (.blk b2 (.cells #[.bool p2.Leaf, .slice A5 p2.Pairs.length u5, .slice A6 p2.Keys.length u6, .slice A7 p2.Kids.length u7] 26 (0, 0))) :: (.blk b1 (.cells #[.bool p0.Leaf, .slice A1 p0.Pairs.length u1, .slice A2 p0.Keys.length u2, .slice A3 p0.Kids.length u3] 26 (0, 0))) :: (.sl (.slice A13 x5.length u13) 48 2 x5.length cl6) :: (.sl (.slice A14 x6.length u14) 3 1 x6.length cl7) :: F) w' → Kp I w I2 w' → Elems (Rp.int .u8) I2 w' A4 p1 → RepL rp_T_api_Pair I2 w' cl6 x5 → RepL (Rp.int .i64) I2 w' cl7 x6 → Elems rp_T_api_Pair I2 w' A5 p2.Pairs → Elems (Rp.slice (Rp.int .u8)) I2 w' A6 p2.Keys → Elems (Rp.int .i64) I2 w' A7 p2.Kids → Elems rp_T_api_Pair I2 w' A1 p0.Pairs → Elems (Rp.slice (Rp.int .u8)) I2 w' A2 p0.Keys → Elems (Rp.int .i64) I2 w' A3 p0.Kids → RepL rp_T_api_Pair I2 w' cl5 x3 → X (.tuple #[.agg #[.bool x4, .slice A13 x5.length u13, .slice none 0 0, .slice A14 x6.length u14], .int .i64 x7]) w') → X v wz) ?_ ?_
 refine fun _ _ hJ => hJ R1 ?_
 clear s
 intro I2 x4 x5 x6 x7 A13 u13 cl6 A14 u14 cl7 w13 hf s kk e4 rp3 rp4 e5 e6 e7 e1 e2 e3 rp2
 refine hR1 _ _ ?_
 unfold g38_j2 at hf
 refine RW.seg hT 2 [] [] [.agg #[.bool x4, .slice A13 x5.length u13, .slice none 0 0, .slice A14 x6.length u14], .int .i64 x7] [] (by kernel_rfl) (trivial) ?_
 refine RW.op (by kernel_rfl) (OK.store hT (i := 2) (b := b3) (off := 0) (n := 4) (vs := [.bool x4, .slice A13 x5.length u13, .slice none 0 0, .slice A14 x6.length u14]) (cs := [.bool false, .slice none 0 0, .slice none 0 0, .slice none 0 0]) (e := 26) s (by kernel_rfl) rfl rfl (flat_ok rfl) (Nat.le_of_ble_eq_true rfl) ?_)
 clear s
 rintro w14 s k11 -
 replace e4 := e4.st k11
 replace e5 := e5.st k11
 replace e6 := e6.st k11
 replace e7 := e7.st k11
 replace e1 := e1.st k11
 replace e2 := e2.st k11
 replace e3 := e3.st k11
 replace rp2 := rp2.st k11
 replace rp3 := rp3.st k11
 replace rp4 := rp4.st k11
 replace kk := kk.trans k11
 refine RW.seg hT 1 [] [] [.int .i64 x7] [] (by kernel_rfl) (trivial) ?_
 refine RW.nil ?_
 refine WPK.ret (?_)
 obtain rfl := someS hf
 refine Fin.of (rs := [.cell 6 26, .tmp 7]) hT [.agg #[.bool x4, .slice A13 x5.length u13, .slice none 0 0, .slice A14 x6.length u14]] (.tuple #[.agg #[.bool x4, .slice A13 x5.length u13, .slice none 0 0, .slice A14 x6.length u14], .int .i64 x7]) [.cells ⟨b3, 0, none⟩ [.bool x4, .slice A13 x5.length u13, .slice none 0 0, .slice A14 x6.length u14] 4] rfl (by kernel_rfl) (s.cells (i := 2) rfl rfl rfl) ?_
 replace s := s.pushNil 27 1
 replace s := s.pick [6, 0, 7] 8 rfl
 exact fun X h => vc rfl (h I2 A13 x5.length u13 cl6 none 0 0 [] A14 x6.length u14 cl7 _ s kk rfl rp3 rfl (RepL.nil (r := (Rp.slice (Rp.int .u8)))) rfl rp4)
 refine Ret.of Try.func80 rfl ?_
 refine WPK.seq ?_
 refine WPK.region ?_
 refine RW.op (by kernel_rfl) (OK.new hT (f := fun b => .pointer (some ⟨b, 0, none⟩)) (cs := [.bool p0.Leaf, .slice A12 x3.length u12, .slice none 0 0, .slice none 0 0]) (e := 26) (c := .tt) s (by kernel_rfl) trivial ?_)
 clear s
 rintro w15 b5 s k12 -
 replace e4 := e4.st k12
 replace e5 := e5.st k12
 replace e6 := e6.st k12
 replace e7 := e7.st k12
 replace e1 := e1.st k12
 replace e2 := e2.st k12
 replace e3 := e3.st k12
 replace rp2 := rp2.st k12
 replace kk := kk.trans k12
 refine RW.op (by kernel_rfl) (OK.new hT (f := fun b => .pointer (some ⟨b, 0, none⟩)) (cs := [.bool false, .slice none 0 0, .slice none 0 0, .slice none 0 0]) (e := 26) (c := .tt) s (by kernel_rfl) trivial ?_)
 clear s
 rintro w16 b6 s k13 -
 replace e4 := e4.st k13
 replace e5 := e5.st k13
 replace e6 := e6.st k13
 replace e7 := e7.st k13
 replace e1 := e1.st k13
 replace e2 := e2.st k13
 replace e3 := e3.st k13
 replace rp2 := rp2.st k13
 replace kk := kk.trans k13
 refine RW.seg hT 1 [] [] [.int .i64 0] [] (by kernel_rfl) (trivial) ?_
 refine RW.nil ?_
 refine WPK.seq ?_
 refine WPK.seq ?_
 refine WPK.region ?_
 refine RW.seg hT 1 [.agg #[.bool p0.Leaf, .slice A12 x3.length u12, .slice none 0 0, .slice none 0 0]] [] [.agg #[.bool p0.Leaf, .slice A12 x3.length u12, .slice none 0 0, .slice none 0 0]] [.cells ⟨b5, 0, none⟩ [.bool p0.Leaf, .slice A12 x3.length u12, .slice none 0 0, .slice none 0 0] 4] (by kernel_rfl) (s.cells (i := 1) rfl rfl rfl) ?_
 have sa1 := s
 obtain ⟨hc8, e8⟩ := St.lend s (i := 2) rfl rfl rp2
 have k14 := Kp.shut (I := I1) (w := w16) (p := .sl (.slice A12 x3.length u12) 48 2 x3.length cl5)
 replace s := s.shut 2 rfl
 obtain ⟨x8, hx3, hf⟩ := bindS hf
 refine RW.op (by kernel_rfl) (OK.call' en18 (by kernel_rfl) (c18 (F := (.blk b6 (.cells #[.bool false, .slice none 0 0, .slice none 0 0, .slice none 0 0] 26 (0, 0))) :: (.blk b5 (.cells #[.bool p0.Leaf, .slice A12 x3.length u12, .slice none 0 0, .slice none 0 0] 26 (0, 0))) :: (.blk b4 (.cells #[.bool p0.Leaf, .slice A12 x3.length u12, .slice none 0 0, .slice none 0 0] 26 (0, 0))) :: (.blk b3 (.cells #[.bool false, .slice none 0 0, .slice none 0 0, .slice none 0 0] 26 (0, 0))) :: (.blk b2 (.cells #[.bool p2.Leaf, .slice A5 p2.Pairs.length u5, .slice A6 p2.Keys.length u6, .slice A7 p2.Kids.length u7] 26 (0, 0))) :: (.blk b1 (.cells #[.bool p0.Leaf, .slice A1 p0.Pairs.length u1, .slice A2 p0.Keys.length u2, .slice A3 p0.Kids.length u3] 26 (0, 0))) :: F) (T_api_Node.mk p0.Leaf x3 [] []) A12 u12 none 0 none 0 hc8 e8 nil_hc Elems.nil nil_hc Elems.nil s hx3) ?_)
 intro X2 hX2
 refine fun _ _ hJ => hJ X2 ?_
 clear s
 intro I3 w17 s k15
 refine hX2 _ _ ?_
 have s' := St.back sa1 (i := 2) rfl s k15
 replace k15 := Kp.back sa1 (i := 2) rfl k15
 replace s := s'; clear s'
 obtain ⟨I4, s, k15⟩ : ∃ I : Nat → Prop, St w1 M I ((.sl (.slice A12 x3.length u12) 48 2 x3.length cl5) :: (.blk b6 (.cells #[.bool false, .slice none 0 0, .slice none 0 0, .slice none 0 0] 26 (0, 0))) :: (.blk b5 (.cells #[.bool p0.Leaf, .slice A12 x3.length u12, .slice none 0 0, .slice none 0 0] 26 (0, 0))) :: (.blk b4 (.cells #[.bool p0.Leaf, .slice A12 x3.length u12, .slice none 0 0, .slice none 0 0] 26 (0, 0))) :: (.blk b3 (.cells #[.bool false, .slice none 0 0, .slice none 0 0, .slice none 0 0] 26 (0, 0))) :: (.blk b2 (.cells #[.bool p2.Leaf, .slice A5 p2.Pairs.length u5, .slice A6 p2.Keys.length u6, .slice A7 p2.Kids.length u7] 26 (0, 0))) :: (.blk b1 (.cells #[.bool p0.Leaf, .slice A1 p0.Pairs.length u1, .slice A2 p0.Keys.length u2, .slice A3 p0.Kids.length u3] 26 (0, 0))) :: F) w17 ∧ Kp _ _ I _ := ⟨_, s, k15⟩
 replace e4 := e4.st k15
 replace e5 := e5.st k15
 replace e6 := e6.st k15
 replace e7 := e7.st k15
 replace e1 := e1.st k15
 replace e2 := e2.st k15
 replace e3 := e3.st k15
 replace rp2 := rp2.st k15
 replace kk := kk.trans k15
 refine RW.seg hT 1 [] [(6, .bool (decide (¬ (x8 = true))))] [.bool (decide (¬ (x8 = true)))] [.veq (.bool (!x8)) (.bool (decide (¬ (x8 = true))))] (by kernel_rfl) (not_b) ?_
 refine RW.nil ?_
 by_cases h3 : ¬ (x8 = true)
 have hf := iteT h3 hf
 refine WPK.condT (Eq.trans (b := .bool (decide (¬ (x8 = true)))) (by kernel_rfl) (bo_t h3)) ?_
 refine WPK.seq ?_
 refine WPK.region ?_
 refine RW.seg hT 1 [] [] [.agg #[.bool false, .slice none 0 0, .slice none 0 0, .slice none 0 0]] [] (by kernel_rfl) (trivial) ?_
 refine RW.op (by kernel_rfl) (OK.store hT (i := 1) (b := b6) (off := 0) (n := 4) (vs := [.bool false, .slice none 0 0, .slice none 0 0, .slice none 0 0]) (cs := [.bool false, .slice none 0 0, .slice none 0 0, .slice none 0 0]) (e := 26) s (by kernel_rfl) rfl rfl (flat_ok rfl) (Nat.le_of_ble_eq_true rfl) ?_)
 clear s
 rintro w18 s k16 -
 replace e4 := e4.st k16
 replace e5 := e5.st k16
 replace e6 := e6.st k16
 replace e7 := e7.st k16
 replace e1 := e1.st k16
 replace e2 := e2.st k16
 replace e3 := e3.st k16
 replace rp2 := rp2.st k16
 replace kk := kk.trans k16
 refine RW.seg hT 1 [] [] [.int .i64 100] [] (by kernel_rfl) (trivial) ?_
 refine RW.nil ?_
 refine WPK.ret (?_)
 refine Fin.of (rs := [.cell 2 26, .tmp 3]) hT [.agg #[.bool false, .slice none 0 0, .slice none 0 0, .slice none 0 0]] (.tuple #[.agg #[.bool false, .slice none 0 0, .slice none 0 0, .slice none 0 0], .int .i64 100]) [.cells ⟨b6, 0, none⟩ [.bool false, .slice none 0 0, .slice none 0 0, .slice none 0 0] 4] rfl (by kernel_rfl) (s.cells (i := 1) rfl rfl rfl) ?_
 replace s := s.pushNil 48 2
 replace s := s.pushNil 3 1
 replace s := s.pick [2, 5, 6, 7, 8, 1, 0] 9 rfl
 exact fun X h => vc rfl (h I4 false ([] : List T_api_Pair) ([] : List Int) 100 none 0 [] none 0 [] _ hf s kk e4 (RepL.nil (r := rp_T_api_Pair)) (RepL.nil (r := (Rp.int .i64))) e5 e6 e7 e1 e2 e3 rp2)
 have hf := iteF h3 hf
 refine WPK.condF (Eq.trans (b := .bool (decide (¬ (x8 = true)))) (by kernel_rfl) (bo_f h3)) ?_
 refine WPK.skip ?_
 refine WPK.seq ?_
 refine WPK.region ?_
 refine RW.seg hT 1 [.agg #[.bool p0.Leaf, .slice A12 x3.length u12, .slice none 0 0, .slice none 0 0]] [] [.agg #[.bool p0.Leaf, .slice A12 x3.length u12, .slice none 0 0, .slice none 0 0]] [.cells ⟨b5, 0, none⟩ [.bool p0.Leaf, .slice A12 x3.length u12, .slice none 0 0, .slice none 0 0] 4] (by kernel_rfl) (s.cells (i := 2) rfl rfl rfl) ?_
 refine RW.op (by kernel_rfl) (OK.inl (args := [.agg #[.bool p0.Leaf, .slice A12 x3.length u12, .slice none 0 0, .slice none 0 0]]) en24 (by kernel_rfl) ?_)
 intro R2 hR2
 refine Ret.of Try.func24 rfl ?_
 refine WPK.seq ?_
 refine WPK.region ?_
 refine RW.op (by kernel_rfl) (OK.new hT (f := fun b => .pointer (some ⟨b, 0, none⟩)) (cs := [.bool p0.Leaf, .slice A12 x3.length u12, .slice none 0 0, .slice none 0 0]) (e := 26) (c := .tt) s (by kernel_rfl) trivial ?_)
 clear s
 rintro w19 b7 s k17 -
 replace e4 := e4.st k17
 replace e5 := e5.st k17
 replace e6 := e6.st k17
 replace e7 := e7.st k17
 replace e1 := e1.st k17
 replace e2 := e2.st k17
 replace e3 := e3.st k17
 replace rp2 := rp2.st k17
 replace kk := kk.trans k17
 refine RW.op (by kernel_rfl) (OK.new hT (f := fun b => .pointer (some ⟨b, 0, none⟩)) (cs := [.bool false, .slice none 0 0, .slice none 0 0, .slice none 0 0]) (e := 26) (c := .tt) s (by kernel_rfl) trivial ?_)
 clear s
 rintro w20 b8 s k18 -
 replace e4 := e4.st k18
 replace e5 := e5.st k18
 replace e6 := e6.st k18
 replace e7 := e7.st k18
 replace e1 := e1.st k18
 replace e2 := e2.st k18
 replace e3 := e3.st k18
 replace rp2 := rp2.st k18
 replace kk := kk.trans k18
 refine RW.nil ?_
 refine WPK.seq ?_
 refine WPK.cut' (Kn fun D2 ds wz => ∀ X : Kont, (∀ (I5 : Nat → Prop) (x9 : (List Int)) (b9 : Nat) (A15 : Option Addr) (u15 : Nat) (cl8 : List Value) (w' : World), g38_j3 p0 x3 x9 = some r → St w1 M I5 ((.blk b9 (.cells #[.bool p0.Leaf, .slice none 0 0, .slice none 0 0, .slice A15 x9.length u15] 26 (0, 0))) :: (.sl (.slice A15 x9.length u15) 3 1 x9.length cl8) :: (.blk b8 (.cells #[.bool false, .slice none 0 0, .slice none 0 0, .slice none 0 0] 26 (0, 0))) :: (.blk b7 (.cells #[.bool p0.Leaf, .slice A12 x3.length u12, .slice none 0 0, .slice none 0 0] 26 (0, 0))) :: (.sl (.slice A12 x3.length u12) 48 2 x3.length cl5) :: (.blk b6 (.cells #[.bool false, .slice none 0 0, .slice none 0 0, .slice none 0 0] 26 (0, 0))) :: (.blk b4 (.cells #[.bool p0.Leaf, .slice A12 x3.length u12, .slice none 0 0, .slice none 0 0] 26 (0, 0))) :: (.blk b3 (.cells #[.bool false, .slice none 0 0, .slice none 0 0, .slice none 0 0] 26 (0, 0))) :: (.blk b2 (.cells #[.bool p2.Leaf, .slice A5 p2.Pairs.length u5, .slice A6 p2.Keys.length u6, .slice A7 p2.Kids.length u7] 26 (0, 0))) :: (.blk b1 (.cells #[.bool p0.Leaf, .slice A1 p0.Pairs.length u1, .slice A2 p0.Keys.length u2, .slice A3 p0.Kids.length u3] 26 (0, 0))) :: F) w' → Kp I w I5 w' → RepL (Rp.int .i64) I5 w' cl8 x9 → Elems rp_T_api_Pair I5 w' A5 p2.Pairs → Elems (Rp.slice (Rp.int .u8)) I5 w' A6 p2.Keys → Elems (Rp.int .i64) I5 w' A7 p2.Kids → Elems rp_T_api_Pair I5 w' A1 p0.Pairs → Elems (Rp.slice (Rp.int .u8)) I5 w' A2 p0.Keys → Elems (Rp.int .i64) I5 w' A3 p0.Kids → RepL rp_T_api_Pair I5 w' cl5 x3 → Elems (Rp.int .u8) I5 w' A4 p1 → X [(gd D2 0), .pointer (some ⟨b7, 0, none⟩), .pointer (some ⟨b8, 0, none⟩), .pointer (some ⟨b9, 0, none⟩), undef, undef, (gd D2 6), (gd D2 7), (gd D2 8), (gd D2 9), (gd D2 10), (gd D2 11), undef, undef, undef, undef, undef, undef, undef, undef, undef, undef, undef, undef, undef, undef, undef, undef, undef, undef, undef, undef, undef, undef, undef, undef, undef, undef, undef, undef, undef, undef, undef, undef, undef, undef, undef, undef, undef, undef, undef, undef, undef, undef, undef, undef, undef, undef] [] w') → X D2 ds wz) ?_ ?_
 intro X3 hX3
 refine fun D2 _ _ hJ => hJ X3 ?_
 clear s
 intro I5 x9 b9 A15 u15 cl8 w21 hf s kk rp5 e5 e6 e7 e1 e2 e3 rp2 e4
 refine hX3 _ _ _ ?_
 unfold g38_j3 at hf
 refine WPK.seq ?_
 refine WPK.seq ?_
 refine WPK.region ?_
 refine RW.seg hT 1 [] [] [.int .i64 0] [] (by kernel_rfl) (trivial) ?_
 refine RW.nil ?_
 refine WPK.block ?_
 replace s := s.pushNil 48 2
 replace s := s.pick [1, 2, 3, 4, 5, 6, 7, 8, 9, 10, 0] 11 rfl
 refine WPK.loop' (J := fun n4 D3 ds wz => ∀ X : Kont, (∀ (I6 : Nat → Prop) (x10 : Int) (x11 : (List T_api_Pair)) (A16 : Option Addr) (u16 : Nat) (cl9 : List Value) (w' : World), g38_l4 p0 x3 x9 n4 x10 x11 = some r → St w1 M I6 ((.blk b9 (.cells #[.bool p0.Leaf, .slice A16 x11.length u16, .slice none 0 0, .slice A15 x9.length u15] 26 (0, 0))) :: (.sl (.slice A15 x9.length u15) 3 1 x9.length cl8) :: (.blk b8 (.cells #[.bool false, .slice none 0 0, .slice none 0 0, .slice none 0 0] 26 (0, 0))) :: (.blk b7 (.cells #[.bool p0.Leaf, .slice A12 x3.length u12, .slice none 0 0, .slice none 0 0] 26 (0, 0))) :: (.sl (.slice A12 x3.length u12) 48 2 x3.length cl5) :: (.blk b6 (.cells #[.bool false, .slice none 0 0, .slice none 0 0, .slice none 0 0] 26 (0, 0))) :: (.blk b4 (.cells #[.bool p0.Leaf, .slice A12 x3.length u12, .slice none 0 0, .slice none 0 0] 26 (0, 0))) :: (.blk b3 (.cells #[.bool false, .slice none 0 0, .slice none 0 0, .slice none 0 0] 26 (0, 0))) :: (.blk b2 (.cells #[.bool p2.Leaf, .slice A5 p2.Pairs.length u5, .slice A6 p2.Keys.length u6, .slice A7 p2.Kids.length u7] 26 (0, 0))) :: (.blk b1 (.cells #[.bool p0.Leaf, .slice A1 p0.Pairs.length u1, .slice A2 p0.Keys.length u2, .slice A3 p0.Kids.length u3] 26 (0, 0))) :: (.sl (.slice A16 x11.length u16) 48 2 x11.length cl9) :: F) w' → Kp I w I6 w' → RepL rp_T_api_Pair I6 w' cl9 x11 → Elems rp_T_api_Pair I6 w' A5 p2.Pairs → Elems (Rp.slice (Rp.int .u8)) I6 w' A6 p2.Keys → Elems (Rp.int .i64) I6 w' A7 p2.Kids → Elems rp_T_api_Pair I6 w' A1 p0.Pairs → Elems (Rp.slice (Rp.int .u8)) I6 w' A2 p0.Keys → Elems (Rp.int .i64) I6 w' A3 p0.Kids → RepL (Rp.int .i64) I6 w' cl8 x9 → RepL rp_T_api_Pair I6 w' cl5 x3 → Elems (Rp.int .u8) I6 w' A4 p1 → X [(gd D3 0), .pointer (some ⟨b7, 0, none⟩), .pointer (some ⟨b8, 0, none⟩), .pointer (some ⟨b9, 0, none⟩), .int .i64 x10, undef, (gd D3 6), (gd D3 7), (gd D3 8), (gd D3 9), (gd D3 10), (gd D3 11), (gd D3 12), (gd D3 13), (gd D3 14), (gd D3 15), (gd D3 16), (gd D3 17), (gd D3 18), (gd D3 19), (gd D3 20), (gd D3 21), (gd D3 22), (gd D3 23), (gd D3 24), (gd D3 25), (gd D3 26), (gd D3 27), (gd D3 28), (gd D3 29), (gd D3 30), (gd D3 31), (gd D3 32), (gd D3 33), (gd D3 34), (gd D3 35), (gd D3 36), (gd D3 37), (gd D3 38), undef, undef, undef, undef, undef, undef, undef, undef, undef, undef, undef, undef, undef, undef, undef, undef, undef, undef, undef] [] w') → X D3 ds wz) FUEL (fun X h => kc (by kernel_rfl) rfl (h I5 0 ([] : List T_api_Pair) none 0 [] _ hf s kk (RepL.nil (r := rp_T_api_Pair)) e5 e6 e7 e1 e2 e3 rp5 rp2 e4)) (fun _ _ _ hJ => hJ (fun _ _ _ => False) (by intro I6 x10 x11 A16 u16 cl9 w22 hf s kk rp6 e5 e6 e7 e1 e2 e3 rp5 rp2 e4; exact noneS hf)) ?_
 intro X4 hX4
 refine fun n4 D3 _ _ hJ => hJ (X4 n4) ?_
 clear s
 intro I6 x10 x11 A16 u16 cl9 w22 hf s kk rp6 e5 e6 e7 e1 e2 e3 rp5 rp2 e4
 refine hX4 _ _ _ _ ?_
 replace hf : g38_l4B p0 x3 x9 (g38_l4 p0 x3 x9 n4) x10 x11 = some r := hf
 generalize hrec1 : g38_l4 p0 x3 x9 n4 = rec1 at hf
 unfold g38_l4B at hf
 refine WPK.seq ?_
 refine WPK.seq ?_
 refine WPK.region ?_
 refine RW.seg hT 5 [.slice A12 x3.length u12] [(15, .int .i64 (x3.length : Int))] [.int .i64 x10, .pointer (some ⟨b7, 1, none⟩), .slice A12 x3.length u12, .int .i64 (x3.length : Int), .bool (decide (x10 < (x3.length : Int)))] [.cell ⟨b7, 1, none⟩ (.slice A12 x3.length u12), .veq (.int .i64 (x3.length : Nat)) (.int .i64 (x3.length : Int))] (by kernel_rfl) (⟨s.cell (i := 3) (off := 1) rfl rfl, len_v rfl⟩) ?_
 refine RW.nil ?_
 by_cases h4 : x10 < (x3.length : Int)
 have hf := iteT h4 hf
 refine WPK.condT (Eq.trans (b := .bool (decide (x10 < (x3.length : Int)))) (by kernel_rfl) (bo_t h4)) ?_
 refine WPK.skip ?_
 refine WPK.seq ?_
 refine WPK.block ?_
 have e4S2 := e4
 have e5S2 := e5
 have e6S2 := e6
 have e7S2 := e7
 have e1S2 := e1
 have e2S2 := e2
 have e3S2 := e3
 have rp5S2 := rp5
 have rp2S2 := rp2
 have rp6S2 := rp6
 have kS2 : Kp I6 w22 I6 w22 := Kp.refl
 refine WPK.drawM (fun w' => ∃ I' : Nat → Prop, St w1 M I' ((.blk b9 (.cells #[.bool p0.Leaf, .slice A16 x11.length u16, .slice none 0 0, .slice A15 x9.length u15] 26 (0, 0))) :: (.sl (.slice A15 x9.length u15) 3 1 x9.length cl8) :: (.blk b8 (.cells #[.bool false, .slice none 0 0, .slice none 0 0, .slice none 0 0] 26 (0, 0))) :: (.blk b7 (.cells #[.bool p0.Leaf, .slice A12 x3.length u12, .slice none 0 0, .slice none 0 0] 26 (0, 0))) :: (.sl (.slice A12 x3.length u12) 48 2 x3.length cl5) :: (.blk b6 (.cells #[.bool false, .slice none 0 0, .slice none 0 0, .slice none 0 0] 26 (0, 0))) :: (.blk b4 (.cells #[.bool p0.Leaf, .slice A12 x3.length u12, .slice none 0 0, .slice none 0 0] 26 (0, 0))) :: (.blk b3 (.cells #[.bool false, .slice none 0 0, .slice none 0 0, .slice none 0 0] 26 (0, 0))) :: (.blk b2 (.cells #[.bool p2.Leaf, .slice A5 p2.Pairs.length u5, .slice A6 p2.Keys.length u6, .slice A7 p2.Kids.length u7] 26 (0, 0))) :: (.blk b1 (.cells #[.bool p0.Leaf, .slice A1 p0.Pairs.length u1, .slice A2 p0.Keys.length u2, .slice A3 p0.Kids.length u3] 26 (0, 0))) :: (.sl (.slice A16 x11.length u16) 48 2 x11.length cl9) :: F) w' ∧ Kp I6 w22 I' w') 18 [0, 1, 0, 4, 0, 28, 60, 124, 252, 0, 512, 0, 3584, 7680, 15872, 32764, 65532, 131068, 262143, 524287, 1048575] (by kernel_rfl) (by kernel_rfl) ?_
 intro ht2 w23 hd2
 have k19 := Kp.dr s hd2
 replace s := s.dr hd2
 replace e4 := e4.st k19
 replace e5 := e5.st k19
 replace e6 := e6.st k19
 replace e7 := e7.st k19
 replace e1 := e1.st k19
 replace e2 := e2.st k19
 replace e3 := e3.st k19
 replace rp5 := rp5.st k19
 replace rp2 := rp2.st k19
 replace rp6 := rp6.st k19
 replace kk := kk.trans k19
 replace kS2 := kS2.trans k19
 obtain ⟨x12, hx4, hf⟩ := bindS hf
 obtain ⟨h5, hx4⟩ := getS hx4
 obtain ⟨b10, rfl⟩ := (St.elem s (i := 4) rfl rfl rp2 hx4).1
 obtain ⟨x13, hx5, hf⟩ := bindS hf
 obtain ⟨h6, hx5⟩ := getS hx5
 refine RD.segM hT ht2 (by kernel_rfl) [0, 1, 2, 3, 4, 5, 6, 9, 10, 11, 12, 13] [.slice A16 x11.length u16, .slice (some ⟨b10, 0, none⟩) x3.length u12, .slice (some ⟨b10, 0, none⟩) x3.length u12] [] [.pointer (some ⟨b9, 1, none⟩), .slice A16 x11.length u16, .pointer (some ⟨b7, 1, none⟩), .slice (some ⟨b10, 0, none⟩) x3.length u12, .int .i64 x10, .pointer (some ⟨b10, 0 + x10.toNat * 2, none⟩), .pointer (some ⟨b10, 0 + x10.toNat * 2, none⟩), .pointer (some ⟨b7, 1, none⟩), .slice (some ⟨b10, 0, none⟩) x3.length u12, .int .i64 x10, .pointer (some ⟨b10, 0 + x10.toNat * 2, none⟩), .pointer (some ⟨b10, 0 + x10.toNat * 2 + 1, none⟩)] [.cell ⟨b9, 1, none⟩ (.slice A16 x11.length u16), .cell ⟨b7, 1, none⟩ (.slice (some ⟨b10, 0, none⟩) x3.length u12), .idx x10 x3.length, .cell ⟨b7, 1, none⟩ (.slice (some ⟨b10, 0, none⟩) x3.length u12), .idx x10 x3.length] (by kernel_rfl) (by rintro w' ⟨I', s, k⟩; have e4 := e4S2.st k; have e5 := e5S2.st k; have e6 := e6S2.st k; have e7 := e7S2.st k; have e1 := e1S2.st k; have e2 := e2S2.st k; have e3 := e3S2.st k; have rp5 := rp5S2.st k; have rp2 := rp2S2.st k; have rp6 := rp6S2.st k; obtain ⟨-, cs1, hr1, ha1⟩ := St.elem s (i := 4) rfl rfl rp2 hx4; replace ha1 := ha1 _ rfl; obtain ⟨cs2, cs3, rfl, hr2, hr3⟩ := hr1; obtain ⟨A17, u17, rfl, q1, q2, e9⟩ := hr2; have hc9 := And.intro q1 q2; obtain ⟨A18, u18, rfl, q3, q4, e10⟩ := hr3; have hc10 := And.intro q3 q4; obtain ⟨-, cs4, hr4, ha2⟩ := St.elem s (i := 4) rfl rfl rp2 hx5; replace ha2 := ha2 _ rfl; obtain ⟨cs5, cs6, rfl, hr5, hr6⟩ := hr4; obtain ⟨A19, u19, rfl, q5, q6, e11⟩ := hr5; have hc11 := And.intro q5 q6; obtain ⟨A20, u20, rfl, q7, q8, e12⟩ := hr6; have hc12 := And.intro q7 q8; exact ⟨s.cell (i := 0) (off := 1) rfl rfl, s.cell (i := 3) (off := 1) rfl rfl, h5, s.cell (i := 3) (off := 1) rfl rfl, h6⟩) ⟨_, s.pick [0, 1, 2, 3, 4, 5, 6, 7, 8, 9, 10] 11 rfl, kS2⟩ ?_
 refine RD.ways [7, 14] (by kernel_rfl) (List.forall_mem_cons.2 ⟨?_, List.forall_mem_cons.2 ⟨?_, fun _ h => nomatch h⟩⟩)
 obtain ⟨-, cs7, hr7, ha3⟩ := St.elem s (i := 4) rfl rfl rp2 hx4
 replace ha3 := ha3 _ rfl
 obtain ⟨cs8, cs9, rfl, hr8, hr9⟩ := hr7
 obtain ⟨A21, u21, rfl, q9, q10, e13⟩ := hr8
 have hc13 := And.intro q9 q10
 obtain ⟨A22, u22, rfl, q11, q12, e14⟩ := hr9
 have hc14 := And.intro q11 q12
 refine RWay.op rfl (by kernel_rfl) (OK.pure hT (ld := (.slice A21 x12.Key.length u21)) (v := .slice A21 x12.Key.length u21) (c := .cell ⟨b10, 0 + x10.toNat * 2, none⟩ (.slice A21 x12.Key.length u21)) (by kernel_rfl) (ha3 0 _ rfl) ?_)
 refine ⟨fun _ => ⟨_, s.pick [0, 1, 2, 3, 4, 5, 6, 7, 8, 9, 10] 11 rfl, kS2⟩, RD.fold ?_⟩
 obtain ⟨x14, hx6, hf⟩ := bindS hf
 refine RD.ways [8, 14] (by kernel_rfl) (List.forall_mem_cons.2 ⟨?_, List.forall_mem_cons.2 ⟨?_, fun _ h => nomatch h⟩⟩)
 refine RWay.op rfl (by kernel_rfl) (OK.call' en58 (by kernel_rfl) (c58 (F := (.blk b9 (.cells #[.bool p0.Leaf, .slice A16 x11.length u16, .slice none 0 0, .slice A15 x9.length u15] 26 (0, 0))) :: (.sl (.slice A15 x9.length u15) 3 1 x9.length cl8) :: (.blk b8 (.cells #[.bool false, .slice none 0 0, .slice none 0 0, .slice none 0 0] 26 (0, 0))) :: (.blk b7 (.cells #[.bool p0.Leaf, .slice (some ⟨b10, 0, none⟩) x3.length u12, .slice none 0 0, .slice none 0 0] 26 (0, 0))) :: (.sl (.slice (some ⟨b10, 0, none⟩) x3.length u12) 48 2 x3.length cl5) :: (.blk b6 (.cells #[.bool false, .slice none 0 0, .slice none 0 0, .slice none 0 0] 26 (0, 0))) :: (.blk b4 (.cells #[.bool p0.Leaf, .slice (some ⟨b10, 0, none⟩) x3.length u12, .slice none 0 0, .slice none 0 0] 26 (0, 0))) :: (.blk b3 (.cells #[.bool false, .slice none 0 0, .slice none 0 0, .slice none 0 0] 26 (0, 0))) :: (.blk b2 (.cells #[.bool p2.Leaf, .slice A5 p2.Pairs.length u5, .slice A6 p2.Keys.length u6, .slice A7 p2.Kids.length u7] 26 (0, 0))) :: (.blk b1 (.cells #[.bool p0.Leaf, .slice A1 p0.Pairs.length u1, .slice A2 p0.Keys.length u2, .slice A3 p0.Kids.length u3] 26 (0, 0))) :: (.sl (.slice A16 x11.length u16) 48 2 x11.length cl9) :: F) x12.Key A21 u21 hc13 e13 s hx6) ?_)
 intro X5 hX5
 refine fun _ _ hJ => hJ X5 ?_
 clear s
 intro I7 A23 n5 u23 cl10 w24 s k20 hn1 rp7
 refine hX5 _ _ ?_
 replace e13 := e13.st k20
 replace e4 := e4.st k20
 replace e5 := e5.st k20
 replace e6 := e6.st k20
 replace e7 := e7.st k20
 replace e1 := e1.st k20
 replace e2 := e2.st k20
 replace e3 := e3.st k20
 replace rp5 := rp5.st k20
 replace rp2 := rp2.st k20
 replace rp6 := rp6.st k20
 replace kk := kk.trans k20
 replace kS2 := kS2.trans k20
 refine ⟨fun _ => ⟨_, s.pick [1, 2, 3, 4, 5, 6, 7, 8, 9, 10, 11] 12 rfl, kS2⟩, RD.fold ?_⟩
 obtain ⟨-, cs10, hr10, ha4⟩ := St.elem s (i := 5) rfl rfl rp2 hx5
 replace ha4 := ha4 _ rfl
 obtain ⟨cs11, cs12, rfl, hr11, hr12⟩ := hr10
 obtain ⟨A24, u24, rfl, q13, q14, e15⟩ := hr11
 have hc15 := And.intro q13 q14
 obtain ⟨A25, u25, rfl, q15, q16, e16⟩ := hr12
 have hc16 := And.intro q15 q16
 refine RD.op (i := 14) rfl (by kernel_rfl) (by kernel_rfl) (OK.pure hT (ld := (.slice A25 x13.Val.length u25)) (v := .slice A25 x13.Val.length u25) (c := .cell ⟨b10, 0 + x10.toNat * 2 + 1, none⟩ (.slice A25 x13.Val.length u25)) (by kernel_rfl) (ha4 1 _ rfl) ?_)
 refine ⟨fun _ => ⟨_, s.pick [1, 2, 3, 4, 5, 6, 7, 8, 9, 10, 11] 12 rfl, kS2⟩, RD.fold ?_⟩
 obtain ⟨x15, hx7, hf⟩ := bindS hf
 refine RD.op (i := 15) rfl (by kernel_rfl) (by kernel_rfl) (OK.call' en58 (by kernel_rfl) (c58 (F := (.sl (.slice A23 n5 u23) 5 1 n5 cl10) :: (.blk b9 (.cells #[.bool p0.Leaf, .slice A16 x11.length u16, .slice none 0 0, .slice A15 x9.length u15] 26 (0, 0))) :: (.sl (.slice A15 x9.length u15) 3 1 x9.length cl8) :: (.blk b8 (.cells #[.bool false, .slice none 0 0, .slice none 0 0, .slice none 0 0] 26 (0, 0))) :: (.blk b7 (.cells #[.bool p0.Leaf, .slice (some ⟨b10, 0, none⟩) x3.length u12, .slice none 0 0, .slice none 0 0] 26 (0, 0))) :: (.sl (.slice (some ⟨b10, 0, none⟩) x3.length u12) 48 2 x3.length cl5) :: (.blk b6 (.cells #[.bool false, .slice none 0 0, .slice none 0 0, .slice none 0 0] 26 (0, 0))) :: (.blk b4 (.cells #[.bool p0.Leaf, .slice (some ⟨b10, 0, none⟩) x3.length u12, .slice none 0 0, .slice none 0 0] 26 (0, 0))) :: (.blk b3 (.cells #[.bool false, .slice none 0 0, .slice none 0 0, .slice none 0 0] 26 (0, 0))) :: (.blk b2 (.cells #[.bool p2.Leaf, .slice A5 p2.Pairs.length u5, .slice A6 p2.Keys.length u6, .slice A7 p2.Kids.length u7] 26 (0, 0))) :: (.blk b1 (.cells #[.bool p0.Leaf, .slice A1 p0.Pairs.length u1, .slice A2 p0.Keys.length u2, .slice A3 p0.Kids.length u3] 26 (0, 0))) :: (.sl (.slice A16 x11.length u16) 48 2 x11.length cl9) :: F) x13.Val A25 u25 hc16 e16 s hx7) ?_)
 intro X6 hX6
 refine fun _ _ hJ => hJ X6 ?_
 clear s
 intro I8 A26 n6 u26 cl11 w25 s k21 hn2 rp8
 refine hX6 _ _ ?_
 replace e13 := e13.st k21
 replace e16 := e16.st k21
 replace e4 := e4.st k21
 replace e5 := e5.st k21
 replace e6 := e6.st k21
 replace e7 := e7.st k21
 replace e1 := e1.st k21
 replace e2 := e2.st k21
 replace e3 := e3.st k21
 replace rp7 := rp7.st k21
 replace rp5 := rp5.st k21
 replace rp2 := rp2.st k21
 replace rp6 := rp6.st k21
 replace kk := kk.trans k21
 replace kS2 := kS2.trans k21
 refine ⟨fun _ => ⟨_, s.pick [2, 3, 4, 5, 6, 7, 8, 9, 10, 11, 12] 13 rfl, kS2⟩, RD.fold ?_⟩
 refine RD.segM hT ht2 (by kernel_rfl) [16] [] [] [.agg #[.slice A23 n5 u23, .slice A26 n6 u26]] [] (by kernel_rfl) (fun _ _ => trivial) ⟨_, s.pick [2, 3, 4, 5, 6, 7, 8, 9, 10, 11, 12] 13 rfl, kS2⟩ ?_
 rw [hn1] at s
 try rw [hn1]
 obtain ⟨I9, s', k22, hc17, e17⟩ := St.give s (i := 1) rfl rfl rp7
 replace s := s'; clear s'
 replace e13 := e13.st k22
 replace e16 := e16.st k22
 replace e4 := e4.st k22
 replace e5 := e5.st k22
 replace e6 := e6.st k22
 replace e7 := e7.st k22
 replace e1 := e1.st k22
 replace e2 := e2.st k22
 replace e3 := e3.st k22
 replace rp8 := rp8.st k22
 replace rp5 := rp5.st k22
 replace rp2 := rp2.st k22
 replace rp6 := rp6.st k22
 replace kk := kk.trans k22
 replace kS2 := kS2.trans k22
 rw [hn2] at s
 try rw [hn2]
 obtain ⟨I10, s', k23, hc18, e18⟩ := St.give s (i := 0) rfl rfl rp8
 replace s := s'; clear s'
 replace e13 := e13.st k23
 replace e17 := e17.st k23
 replace e16 := e16.st k23
 replace e4 := e4.st k23
 replace e5 := e5.st k23
 replace e6 := e6.st k23
 replace e7 := e7.st k23
 replace e1 := e1.st k23
 replace e2 := e2.st k23
 replace e3 := e3.st k23
 replace rp5 := rp5.st k23
 replace rp2 := rp2.st k23
 replace rp6 := rp6.st k23
 replace kk := kk.trans k23
 replace kS2 := kS2.trans k23
 refine RD.op (i := 17) rfl (by kernel_rfl) (by kernel_rfl) (OK.new hT (f := fun b => .slice (some ⟨b, 0, none⟩) 1 1) (cs := [.slice A23 x14.length u23, .slice A26 x15.length u26]) (e := 48) (c := .tt) s (by kernel_rfl) trivial ?_)
 clear s
 rintro w26 b11 s k24 -
 replace e13 := e13.st k24
 replace e17 := e17.st k24
 replace e16 := e16.st k24
 replace e18 := e18.st k24
 replace e4 := e4.st k24
 replace e5 := e5.st k24
 replace e6 := e6.st k24
 replace e7 := e7.st k24
 replace e1 := e1.st k24
 replace e2 := e2.st k24
 replace e3 := e3.st k24
 replace rp5 := rp5.st k24
 replace rp2 := rp2.st k24
 replace rp6 := rp6.st k24
 replace kk := kk.trans k24
 replace kS2 := kS2.trans k24
 have rp9 : RepL rp_T_api_Pair I10 w26 [.slice A23 x14.length u23, .slice A26 x15.length u26] ([(T_api_Pair.mk x14 x15)] : List T_api_Pair) := RepL.cons (c := [.slice A23 x14.length u23, .slice A26 x15.length u26]) (d := []) (⟨[.slice A23 x14.length u23], [.slice A26 x15.length u26], rfl, ⟨_, _, rfl, hc17.1, hc17.2, e17⟩, ⟨_, _, rfl, hc18.1, hc18.2, e18⟩⟩) (RepL.nil)
 replace s : St w1 M I10 ((.sl (.slice (some ⟨b11, 0, none⟩) 1 1) 48 2 1 [.slice A23 x14.length u23, .slice A26 x15.length u26]) :: (.blk b9 (.cells #[.bool p0.Leaf, .slice A16 x11.length u16, .slice none 0 0, .slice A15 x9.length u15] 26 (0, 0))) :: (.sl (.slice A15 x9.length u15) 3 1 x9.length cl8) :: (.blk b8 (.cells #[.bool false, .slice none 0 0, .slice none 0 0, .slice none 0 0] 26 (0, 0))) :: (.blk b7 (.cells #[.bool p0.Leaf, .slice (some ⟨b10, 0, none⟩) x3.length u12, .slice none 0 0, .slice none 0 0] 26 (0, 0))) :: (.sl (.slice (some ⟨b10, 0, none⟩) x3.length u12) 48 2 x3.length cl5) :: (.blk b6 (.cells #[.bool false, .slice none 0 0, .slice none 0 0, .slice none 0 0] 26 (0, 0))) :: (.blk b4 (.cells #[.bool p0.Leaf, .slice (some ⟨b10, 0, none⟩) x3.length u12, .slice none 0 0, .slice none 0 0] 26 (0, 0))) :: (.blk b3 (.cells #[.bool false, .slice none 0 0, .slice none 0 0, .slice none 0 0] 26 (0, 0))) :: (.blk b2 (.cells #[.bool p2.Leaf, .slice A5 p2.Pairs.length u5, .slice A6 p2.Keys.length u6, .slice A7 p2.Kids.length u7] 26 (0, 0))) :: (.blk b1 (.cells #[.bool p0.Leaf, .slice A1 p0.Pairs.length u1, .slice A2 p0.Keys.length u2, .slice A3 p0.Kids.length u3] 26 (0, 0))) :: (.sl (.slice A16 x11.length u16) 48 2 x11.length cl9) :: F) w26 := s.blkSl (i := 0) (n := 1) (c := 1) (size := 2) rfl rfl (Nat.le_refl _) (by decide)
 refine ⟨fun _ => ⟨_, s.pick [1, 2, 3, 4, 5, 6, 7, 8, 9, 10, 11] 12 rfl, kS2⟩, RD.fold ?_⟩
 have hs3 := St.src s (i := 0) rfl rfl rp9
 have rq3 := rp9
 obtain ⟨x16, hx8, hf⟩ := bindS hf
 refine RD.op (i := 18) rfl (by kernel_rfl) (by kernel_rfl) (OK.app hT (r := rp_T_api_Pair) (i := 11) (t := 22) (e := 48) (size := 2) (bytes := 48) (c := u16) (n := x11.length) (m := 1) s (by kernel_rfl) rfl rfl rfl rfl rfl (by decide) rfl rfl rfl rfl rp6 hs3 rq3 (flat_iso (flat_pair flat_slice flat_slice)) rfl hx8 ?_)
 clear s
 rintro A27 u27 cl12 w27 s k25 rp10
 replace e13 := e13.st k25
 replace e17 := e17.st k25
 replace e16 := e16.st k25
 replace e18 := e18.st k25
 replace e4 := e4.st k25
 replace e5 := e5.st k25
 replace e6 := e6.st k25
 replace e7 := e7.st k25
 replace e1 := e1.st k25
 replace e2 := e2.st k25
 replace e3 := e3.st k25
 replace rp9 := rp9.st k25
 replace rp5 := rp5.st k25
 replace rp2 := rp2.st k25
 replace rp6 := rp6.st k25
 replace kk := kk.trans k25
 replace kS2 := kS2.trans k25
 refine ⟨fun h => absurd h (by decide), RD.fold ?_⟩
 refine RD.op (i := 19) rfl (by kernel_rfl) (by kernel_rfl) (OK.pure hT (ld := undef) (v := .pointer (some ⟨b9, 1, none⟩)) (c := .tt) (by kernel_rfl) (trivial) ?_)
 refine ⟨fun h => absurd h (by decide), RD.fold ?_⟩
 refine RD.op (i := 20) rfl (by kernel_rfl) (by kernel_rfl) (OK.store hT (i := 1) (b := b9) (off := 1) (n := 1) (vs := [.slice A27 x16.length u27]) (cs := [.bool p0.Leaf, (.slice A16 x11.length u16), .slice none 0 0, .slice A15 x9.length u15]) (e := 26) s (by kernel_rfl) rfl rfl (flat_ok rfl) (Nat.le_of_ble_eq_true rfl) ?_)
 clear s
 rintro w28 s k26 -
 replace e13 := e13.st k26
 replace e17 := e17.st k26
 replace e16 := e16.st k26
 replace e18 := e18.st k26
 replace e4 := e4.st k26
 replace e5 := e5.st k26
 replace e6 := e6.st k26
 replace e7 := e7.st k26
 replace e1 := e1.st k26
 replace e2 := e2.st k26
 replace e3 := e3.st k26
 replace rp9 := rp9.st k26
 replace rp5 := rp5.st k26
 replace rp2 := rp2.st k26
 replace rp10 := rp10.st k26
 replace kk := kk.trans k26
 replace kS2 := kS2.trans k26
 refine ⟨fun h => absurd h (by decide), RD.fold ?_⟩
 refine RD.done (by kernel_rfl) ?_
 refine WPK.region ?_
 refine RW.seg hT 3 [] [] [.int .i64 x10, .int .i64 (IntKind.i64.wrap (x10 + 1)), .int .i64 (IntKind.i64.wrap (x10 + 1))] [] (by kernel_rfl) (trivial) ?_
 refine RW.nil ?_
 subst hrec1
 replace s := s.pick [1, 2, 3, 4, 5, 6, 7, 8, 9, 10, 11] 12 rfl
 exact ⟨n4, Nat.le_refl _, fun X h => kc (by kernel_rfl) rfl (h I10 (IntKind.i64.wrap (x10 + 1)) x16 A27 u27 cl12 _ hf s kk rp10 e5 e6 e7 e1 e2 e3 rp5 rp2 e4)⟩
 obtain ⟨-, cs10, hr10, ha4⟩ := St.elem s (i := 4) rfl rfl rp2 hx5
 replace ha4 := ha4 _ rfl
 obtain ⟨cs11, cs12, rfl, hr11, hr12⟩ := hr10
 obtain ⟨A24, u24, rfl, q13, q14, e15⟩ := hr11
 have hc15 := And.intro q13 q14
 obtain ⟨A25, u25, rfl, q15, q16, e16⟩ := hr12
 have hc16 := And.intro q15 q16
 refine RWay.op rfl (by kernel_rfl) (OK.pure hT (ld := (.slice A25 x13.Val.length u25)) (v := .slice A25 x13.Val.length u25) (c := .cell ⟨b10, 0 + x10.toNat * 2 + 1, none⟩ (.slice A25 x13.Val.length u25)) (by kernel_rfl) (ha4 1 _ rfl) ?_)
 refine ⟨fun _ => ⟨_, s.pick [0, 1, 2, 3, 4, 5, 6, 7, 8, 9, 10] 11 rfl, kS2⟩, RD.fold ?_⟩
 refine RD.op (i := 8) rfl (by kernel_rfl) (by kernel_rfl) (OK.call' en58 (by kernel_rfl) (c58 (F := (.blk b9 (.cells #[.bool p0.Leaf, .slice A16 x11.length u16, .slice none 0 0, .slice A15 x9.length u15] 26 (0, 0))) :: (.sl (.slice A15 x9.length u15) 3 1 x9.length cl8) :: (.blk b8 (.cells #[.bool false, .slice none 0 0, .slice none 0 0, .slice none 0 0] 26 (0, 0))) :: (.blk b7 (.cells #[.bool p0.Leaf, .slice (some ⟨b10, 0, none⟩) x3.length u12, .slice none 0 0, .slice none 0 0] 26 (0, 0))) :: (.sl (.slice (some ⟨b10, 0, none⟩) x3.length u12) 48 2 x3.length cl5) :: (.blk b6 (.cells #[.bool false, .slice none 0 0, .slice none 0 0, .slice none 0 0] 26 (0, 0))) :: (.blk b4 (.cells #[.bool p0.Leaf, .slice (some ⟨b10, 0, none⟩) x3.length u12, .slice none 0 0, .slice none 0 0] 26 (0, 0))) :: (.blk b3 (.cells #[.bool false, .slice none 0 0, .slice none 0 0, .slice none 0 0] 26 (0, 0))) :: (.blk b2 (.cells #[.bool p2.Leaf, .slice A5 p2.Pairs.length u5, .slice A6 p2.Keys.length u6, .slice A7 p2.Kids.length u7] 26 (0, 0))) :: (.blk b1 (.cells #[.bool p0.Leaf, .slice A1 p0.Pairs.length u1, .slice A2 p0.Keys.length u2, .slice A3 p0.Kids.length u3] 26 (0, 0))) :: (.sl (.slice A16 x11.length u16) 48 2 x11.length cl9) :: F) x12.Key A21 u21 hc13 e13 s hx6) ?_)
 intro X7 hX7
 refine fun _ _ hJ => hJ X7 ?_
 clear s
 intro I11 A28 n7 u28 cl13 w29 s k27 hn3 rp11
 refine hX7 _ _ ?_
 replace e13 := e13.st k27
 replace e16 := e16.st k27
 replace e4 := e4.st k27
 replace e5 := e5.st k27
 replace e6 := e6.st k27
 replace e7 := e7.st k27
 replace e1 := e1.st k27
 replace e2 := e2.st k27
 replace e3 := e3.st k27
 replace rp5 := rp5.st k27
 replace rp2 := rp2.st k27
 replace rp6 := rp6.st k27
 replace kk := kk.trans k27
 replace kS2 := kS2.trans k27
 refine ⟨fun _ => ⟨_, s.pick [1, 2, 3, 4, 5, 6, 7, 8, 9, 10, 11] 12 rfl, kS2⟩, RD.fold ?_⟩
 obtain ⟨x17, hx9, hf⟩ := bindS hf
 refine RD.op (i := 15) rfl (by kernel_rfl) (by kernel_rfl) (OK.call' en58 (by kernel_rfl) (c58 (F := (.sl (.slice A28 n7 u28) 5 1 n7 cl13) :: (.blk b9 (.cells #[.bool p0.Leaf, .slice A16 x11.length u16, .slice none 0 0, .slice A15 x9.length u15] 26 (0, 0))) :: (.sl (.slice A15 x9.length u15) 3 1 x9.length cl8) :: (.blk b8 (.cells #[.bool false, .slice none 0 0, .slice none 0 0, .slice none 0 0] 26 (0, 0))) :: (.blk b7 (.cells #[.bool p0.Leaf, .slice (some ⟨b10, 0, none⟩) x3.length u12, .slice none 0 0, .slice none 0 0] 26 (0, 0))) :: (.sl (.slice (some ⟨b10, 0, none⟩) x3.length u12) 48 2 x3.length cl5) :: (.blk b6 (.cells #[.bool false, .slice none 0 0, .slice none 0 0, .slice none 0 0] 26 (0, 0))) :: (.blk b4 (.cells #[.bool p0.Leaf, .slice (some ⟨b10, 0, none⟩) x3.length u12, .slice none 0 0, .slice none 0 0] 26 (0, 0))) :: (.blk b3 (.cells #[.bool false, .slice none 0 0, .slice none 0 0, .slice none 0 0] 26 (0, 0))) :: (.blk b2 (.cells #[.bool p2.Leaf, .slice A5 p2.Pairs.length u5, .slice A6 p2.Keys.length u6, .slice A7 p2.Kids.length u7] 26 (0, 0))) :: (.blk b1 (.cells #[.bool p0.Leaf, .slice A1 p0.Pairs.length u1, .slice A2 p0.Keys.length u2, .slice A3 p0.Kids.length u3] 26 (0, 0))) :: (.sl (.slice A16 x11.length u16) 48 2 x11.length cl9) :: F) x13.Val A25 u25 hc16 e16 s hx9) ?_)
 intro X8 hX8
 refine fun _ _ hJ => hJ X8 ?_
 clear s
 intro I12 A29 n8 u29 cl14 w30 s k28 hn4 rp12
 refine hX8 _ _ ?_
 replace e13 := e13.st k28
 replace e16 := e16.st k28
 replace e4 := e4.st k28
 replace e5 := e5.st k28
 replace e6 := e6.st k28
 replace e7 := e7.st k28
 replace e1 := e1.st k28
 replace e2 := e2.st k28
 replace e3 := e3.st k28
 replace rp11 := rp11.st k28
 replace rp5 := rp5.st k28
 replace rp2 := rp2.st k28
 replace rp6 := rp6.st k28
 replace kk := kk.trans k28
 replace kS2 := kS2.trans k28
 refine ⟨fun _ => ⟨_, s.pick [2, 3, 4, 5, 6, 7, 8, 9, 10, 11, 12] 13 rfl, kS2⟩, RD.fold ?_⟩
 refine RD.segM hT ht2 (by kernel_rfl) [16] [] [] [.agg #[.slice A28 n7 u28, .slice A29 n8 u29]] [] (by kernel_rfl) (fun _ _ => trivial) ⟨_, s.pick [2, 3, 4, 5, 6, 7, 8, 9, 10, 11, 12] 13 rfl, kS2⟩ ?_
 rw [hn3] at s
 try rw [hn3]
 obtain ⟨I13, s', k29, hc19, e19⟩ := St.give s (i := 1) rfl rfl rp11
 replace s := s'; clear s'
 replace e13 := e13.st k29
 replace e16 := e16.st k29
 replace e4 := e4.st k29
 replace e5 := e5.st k29
 replace e6 := e6.st k29
 replace e7 := e7.st k29
 replace e1 := e1.st k29
 replace e2 := e2.st k29
 replace e3 := e3.st k29
 replace rp12 := rp12.st k29
 replace rp5 := rp5.st k29
 replace rp2 := rp2.st k29
 replace rp6 := rp6.st k29
 replace kk := kk.trans k29
 replace kS2 := kS2.trans k29
 rw [hn4] at s
 try rw [hn4]
 obtain ⟨I14, s', k30, hc20, e20⟩ := St.give s (i := 0) rfl rfl rp12
 replace s := s'; clear s'
 replace e13 := e13.st k30
 replace e19 := e19.st k30
 replace e16 := e16.st k30
 replace e4 := e4.st k30
 replace e5 := e5.st k30
 replace e6 := e6.st k30
 replace e7 := e7.st k30
 replace e1 := e1.st k30
 replace e2 := e2.st k30
 replace e3 := e3.st k30
 replace rp5 := rp5.st k30
 replace rp2 := rp2.st k30
 replace rp6 := rp6.st k30
 replace kk := kk.trans k30
 replace kS2 := kS2.trans k30
 refine RD.op (i := 17) rfl (by kernel_rfl) (by kernel_rfl) (OK.new hT (f := fun b => .slice (some ⟨b, 0, none⟩) 1 1) (cs := [.slice A28 x14.length u28, .slice A29 x17.length u29]) (e := 48) (c := .tt) s (by kernel_rfl) trivial ?_)
 clear s
 rintro w31 b12 s k31 -
 replace e13 := e13.st k31
 replace e19 := e19.st k31
 replace e16 := e16.st k31
 replace e20 := e20.st k31
 replace e4 := e4.st k31
 replace e5 := e5.st k31
 replace e6 := e6.st k31
 replace e7 := e7.st k31
 replace e1 := e1.st k31
 replace e2 := e2.st k31
 replace e3 := e3.st k31
 replace rp5 := rp5.st k31
 replace rp2 := rp2.st k31
 replace rp6 := rp6.st k31
 replace kk := kk.trans k31
 replace kS2 := kS2.trans k31
 have rp13 : RepL rp_T_api_Pair I14 w31 [.slice A28 x14.length u28, .slice A29 x17.length u29] ([(T_api_Pair.mk x14 x17)] : List T_api_Pair) := RepL.cons (c := [.slice A28 x14.length u28, .slice A29 x17.length u29]) (d := []) (⟨[.slice A28 x14.length u28], [.slice A29 x17.length u29], rfl, ⟨_, _, rfl, hc19.1, hc19.2, e19⟩, ⟨_, _, rfl, hc20.1, hc20.2, e20⟩⟩) (RepL.nil)
 replace s : St w1 M I14 ((.sl (.slice (some ⟨b12, 0, none⟩) 1 1) 48 2 1 [.slice A28 x14.length u28, .slice A29 x17.length u29]) :: (.blk b9 (.cells #[.bool p0.Leaf, .slice A16 x11.length u16, .slice none 0 0, .slice A15 x9.length u15] 26 (0, 0))) :: (.sl (.slice A15 x9.length u15) 3 1 x9.length cl8) :: (.blk b8 (.cells #[.bool false, .slice none 0 0, .slice none 0 0, .slice none 0 0] 26 (0, 0))) :: (.blk b7 (.cells #[.bool p0.Leaf, .slice (some ⟨b10, 0, none⟩) x3.length u12, .slice none 0 0, .slice none 0 0] 26 (0, 0))) :: (.sl (.slice (some ⟨b10, 0, none⟩) x3.length u12) 48 2 x3.length cl5) :: (.blk b6 (.cells #[.bool false, .slice none 0 0, .slice none 0 0, .slice none 0 0] 26 (0, 0))) :: (.blk b4 (.cells #[.bool p0.Leaf, .slice (some ⟨b10, 0, none⟩) x3.length u12, .slice none 0 0, .slice none 0 0] 26 (0, 0))) :: (.blk b3 (.cells #[.bool false, .slice none 0 0, .slice none 0 0, .slice none 0 0] 26 (0, 0))) :: (.blk b2 (.cells #[.bool p2.Leaf, .slice A5 p2.Pairs.length u5, .slice A6 p2.Keys.length u6, .slice A7 p2.Kids.length u7] 26 (0, 0))) :: (.blk b1 (.cells #[.bool p0.Leaf, .slice A1 p0.Pairs.length u1, .slice A2 p0.Keys.length u2, .slice A3 p0.Kids.length u3] 26 (0, 0))) :: (.sl (.slice A16 x11.length u16) 48 2 x11.length cl9) :: F) w31 := s.blkSl (i := 0) (n := 1) (c := 1) (size := 2) rfl rfl (Nat.le_refl _) (by decide)
 refine ⟨fun _ => ⟨_, s.pick [1, 2, 3, 4, 5, 6, 7, 8, 9, 10, 11] 12 rfl, kS2⟩, RD.fold ?_⟩
 have hs4 := St.src s (i := 0) rfl rfl rp13
 have rq4 := rp13
 obtain ⟨x18, hx10, hf⟩ := bindS hf
 refine RD.op (i := 18) rfl (by kernel_rfl) (by kernel_rfl) (OK.app hT (r := rp_T_api_Pair) (i := 11) (t := 22) (e := 48) (size := 2) (bytes := 48) (c := u16) (n := x11.length) (m := 1) s (by kernel_rfl) rfl rfl rfl rfl rfl (by decide) rfl rfl rfl rfl rp6 hs4 rq4 (flat_iso (flat_pair flat_slice flat_slice)) rfl hx10 ?_)
 clear s
 rintro A30 u30 cl15 w32 s k32 rp14
 replace e13 := e13.st k32
 replace e19 := e19.st k32
 replace e16 := e16.st k32
 replace e20 := e20.st k32
 replace e4 := e4.st k32
 replace e5 := e5.st k32
 replace e6 := e6.st k32
 replace e7 := e7.st k32
 replace e1 := e1.st k32
 replace e2 := e2.st k32
 replace e3 := e3.st k32
 replace rp13 := rp13.st k32
 replace rp5 := rp5.st k32
 replace rp2 := rp2.st k32
 replace rp6 := rp6.st k32
 replace kk := kk.trans k32
 replace kS2 := kS2.trans k32
 refine ⟨fun h => absurd h (by decide), RD.fold ?_⟩
 refine RD.op (i := 19) rfl (by kernel_rfl) (by kernel_rfl) (OK.pure hT (ld := undef) (v := .pointer (some ⟨b9, 1, none⟩)) (c := .tt) (by kernel_rfl) (trivial) ?_)
 refine ⟨fun h => absurd h (by decide), RD.fold ?_⟩
 refine RD.op (i := 20) rfl (by kernel_rfl) (by kernel_rfl) (OK.store hT (i := 1) (b := b9) (off := 1) (n := 1) (vs := [.slice A30 x18.length u30]) (cs := [.bool p0.Leaf, (.slice A16 x11.length u16), .slice none 0 0, .slice A15 x9.length u15]) (e := 26) s (by kernel_rfl) rfl rfl (flat_ok rfl) (Nat.le_of_ble_eq_true rfl) ?_)
 clear s
 rintro w33 s k33 -
 replace e13 := e13.st k33
 replace e19 := e19.st k33
 replace e16 := e16.st k33
 replace e20 := e20.st k33
 replace e4 := e4.st k33
 replace e5 := e5.st k33
 replace e6 := e6.st k33
 replace e7 := e7.st k33
 replace e1 := e1.st k33
 replace e2 := e2.st k33
 replace e3 := e3.st k33
 replace rp13 := rp13.st k33
 replace rp5 := rp5.st k33
 replace rp2 := rp2.st k33
 replace rp14 := rp14.st k33
 replace kk := kk.trans k33
 replace kS2 := kS2.trans k33
 refine ⟨fun h => absurd h (by decide), RD.fold ?_⟩
 refine RD.done (by kernel_rfl) ?_
 refine WPK.region ?_
 refine RW.seg hT 3 [] [] [.int .i64 x10, .int .i64 (IntKind.i64.wrap (x10 + 1)), .int .i64 (IntKind.i64.wrap (x10 + 1))] [] (by kernel_rfl) (trivial) ?_
 refine RW.nil ?_
 subst hrec1
 replace s := s.pick [1, 2, 3, 4, 5, 6, 7, 8, 9, 10, 11] 12 rfl
 exact ⟨n4, Nat.le_refl _, fun X h => kc (by kernel_rfl) rfl (h I14 (IntKind.i64.wrap (x10 + 1)) x18 A30 u30 cl15 _ hf s kk rp14 e5 e6 e7 e1 e2 e3 rp5 rp2 e4)⟩
 obtain ⟨-, cs10, hr10, ha4⟩ := St.elem s (i := 4) rfl rfl rp2 hx5
 replace ha4 := ha4 _ rfl
 obtain ⟨cs11, cs12, rfl, hr11, hr12⟩ := hr10
 obtain ⟨A24, u24, rfl, q13, q14, e15⟩ := hr11
 have hc15 := And.intro q13 q14
 obtain ⟨A25, u25, rfl, q15, q16, e16⟩ := hr12
 have hc16 := And.intro q15 q16
 refine RWay.op rfl (by kernel_rfl) (OK.pure hT (ld := (.slice A25 x13.Val.length u25)) (v := .slice A25 x13.Val.length u25) (c := .cell ⟨b10, 0 + x10.toNat * 2 + 1, none⟩ (.slice A25 x13.Val.length u25)) (by kernel_rfl) (ha4 1 _ rfl) ?_)
 refine ⟨fun _ => ⟨_, s.pick [0, 1, 2, 3, 4, 5, 6, 7, 8, 9, 10] 11 rfl, kS2⟩, RD.fold ?_⟩
 obtain ⟨-, cs7, hr7, ha3⟩ := St.elem s (i := 4) rfl rfl rp2 hx4
 replace ha3 := ha3 _ rfl
 obtain ⟨cs8, cs9, rfl, hr8, hr9⟩ := hr7
 obtain ⟨A21, u21, rfl, q9, q10, e13⟩ := hr8
 have hc13 := And.intro q9 q10
 obtain ⟨A22, u22, rfl, q11, q12, e14⟩ := hr9
 have hc14 := And.intro q11 q12
 refine RD.op (i := 7) rfl (by kernel_rfl) (by kernel_rfl) (OK.pure hT (ld := (.slice A21 x12.Key.length u21)) (v := .slice A21 x12.Key.length u21) (c := .cell ⟨b10, 0 + x10.toNat * 2, none⟩ (.slice A21 x12.Key.length u21)) (by kernel_rfl) (ha3 0 _ rfl) ?_)
 refine ⟨fun _ => ⟨_, s.pick [0, 1, 2, 3, 4, 5, 6, 7, 8, 9, 10] 11 rfl, kS2⟩, RD.fold ?_⟩
 obtain ⟨x19, hx11, hf⟩ := bindS hf
 refine RD.op (i := 8) rfl (by kernel_rfl) (by kernel_rfl) (OK.call' en58 (by kernel_rfl) (c58 (F := (.blk b9 (.cells #[.bool p0.Leaf, .slice A16 x11.length u16, .slice none 0 0, .slice A15 x9.length u15] 26 (0, 0))) :: (.sl (.slice A15 x9.length u15) 3 1 x9.length cl8) :: (.blk b8 (.cells #[.bool false, .slice none 0 0, .slice none 0 0, .slice none 0 0] 26 (0, 0))) :: (.blk b7 (.cells #[.bool p0.Leaf, .slice (some ⟨b10, 0, none⟩) x3.length u12, .slice none 0 0, .slice none 0 0] 26 (0, 0))) :: (.sl (.slice (some ⟨b10, 0, none⟩) x3.length u12) 48 2 x3.length cl5) :: (.blk b6 (.cells #[.bool false, .slice none 0 0, .slice none 0 0, .slice none 0 0] 26 (0, 0))) :: (.blk b4 (.cells #[.bool p0.Leaf, .slice (some ⟨b10, 0, none⟩) x3.length u12, .slice none 0 0, .slice none 0 0] 26 (0, 0))) :: (.blk b3 (.cells #[.bool false, .slice none 0 0, .slice none 0 0, .slice none 0 0] 26 (0, 0))) :: (.blk b2 (.cells #[.bool p2.Leaf, .slice A5 p2.Pairs.length u5, .slice A6 p2.Keys.length u6, .slice A7 p2.Kids.length u7] 26 (0, 0))) :: (.blk b1 (.cells #[.bool p0.Leaf, .slice A1 p0.Pairs.length u1, .slice A2 p0.Keys.length u2, .slice A3 p0.Kids.length u3] 26 (0, 0))) :: (.sl (.slice A16 x11.length u16) 48 2 x11.length cl9) :: F) x12.Key A21 u21 hc13 e13 s hx11) ?_)
 intro X9 hX9
 refine fun _ _ hJ => hJ X9 ?_
 clear s
 intro I15 A31 n9 u31 cl16 w34 s k34 hn5 rp15
 refine hX9 _ _ ?_
 replace e13 := e13.st k34
 replace e16 := e16.st k34
 replace e4 := e4.st k34
 replace e5 := e5.st k34
 replace e6 := e6.st k34
 replace e7 := e7.st k34
 replace e1 := e1.st k34
 replace e2 := e2.st k34
 replace e3 := e3.st k34
 replace rp5 := rp5.st k34
 replace rp2 := rp2.st k34
 replace rp6 := rp6.st k34
 replace kk := kk.trans k34
 replace kS2 := kS2.trans k34
 refine ⟨fun _ => ⟨_, s.pick [1, 2, 3, 4, 5, 6, 7, 8, 9, 10, 11] 12 rfl, kS2⟩, RD.fold ?_⟩
 obtain ⟨x20, hx12, hf⟩ := bindS hf
 refine RD.op (i := 15) rfl (by kernel_rfl) (by kernel_rfl) (OK.call' en58 (by kernel_rfl) (c58 (F := (.sl (.slice A31 n9 u31) 5 1 n9 cl16) :: (.blk b9 (.cells #[.bool p0.Leaf, .slice A16 x11.length u16, .slice none 0 0, .slice A15 x9.length u15] 26 (0, 0))) :: (.sl (.slice A15 x9.length u15) 3 1 x9.length cl8) :: (.blk b8 (.cells #[.bool false, .slice none 0 0, .slice none 0 0, .slice none 0 0] 26 (0, 0))) :: (.blk b7 (.cells #[.bool p0.Leaf, .slice (some ⟨b10, 0, none⟩) x3.length u12, .slice none 0 0, .slice none 0 0] 26 (0, 0))) :: (.sl (.slice (some ⟨b10, 0, none⟩) x3.length u12) 48 2 x3.length cl5) :: (.blk b6 (.cells #[.bool false, .slice none 0 0, .slice none 0 0, .slice none 0 0] 26 (0, 0))) :: (.blk b4 (.cells #[.bool p0.Leaf, .slice (some ⟨b10, 0, none⟩) x3.length u12, .slice none 0 0, .slice none 0 0] 26 (0, 0))) :: (.blk b3 (.cells #[.bool false, .slice none 0 0, .slice none 0 0, .slice none 0 0] 26 (0, 0))) :: (.blk b2 (.cells #[.bool p2.Leaf, .slice A5 p2.Pairs.length u5, .slice A6 p2.Keys.length u6, .slice A7 p2.Kids.length u7] 26 (0, 0))) :: (.blk b1 (.cells #[.bool p0.Leaf, .slice A1 p0.Pairs.length u1, .slice A2 p0.Keys.length u2, .slice A3 p0.Kids.length u3] 26 (0, 0))) :: (.sl (.slice A16 x11.length u16) 48 2 x11.length cl9) :: F) x13.Val A25 u25 hc16 e16 s hx12) ?_)
 intro X10 hX10
 refine fun _ _ hJ => hJ X10 ?_
 clear s
 intro I16 A32 n10 u32 cl17 w35 s k35 hn6 rp16
 refine hX10 _ _ ?_
 replace e13 := e13.st k35
 replace e16 := e16.st k35
 replace e4 := e4.st k35
 replace e5 := e5.st k35
 replace e6 := e6.st k35
 replace e7 := e7.st k35
 replace e1 := e1.st k35
 replace e2 := e2.st k35
 replace e3 := e3.st k35
 replace rp15 := rp15.st k35
 replace rp5 := rp5.st k35
 replace rp2 := rp2.st k35
 replace rp6 := rp6.st k35
 replace kk := kk.trans k35
 replace kS2 := kS2.trans k35
 refine ⟨fun _ => ⟨_, s.pick [2, 3, 4, 5, 6, 7, 8, 9, 10, 11, 12] 13 rfl, kS2⟩, RD.fold ?_⟩
 refine RD.segM hT ht2 (by kernel_rfl) [16] [] [] [.agg #[.slice A31 n9 u31, .slice A32 n10 u32]] [] (by kernel_rfl) (fun _ _ => trivial) ⟨_, s.pick [2, 3, 4, 5, 6, 7, 8, 9, 10, 11, 12] 13 rfl, kS2⟩ ?_
 rw [hn5] at s
 try rw [hn5]
 obtain ⟨I17, s', k36, hc21, e21⟩ := St.give s (i := 1) rfl rfl rp15
 replace s := s'; clear s'
 replace e13 := e13.st k36
 replace e16 := e16.st k36
 replace e4 := e4.st k36
 replace e5 := e5.st k36
 replace e6 := e6.st k36
 replace e7 := e7.st k36
 replace e1 := e1.st k36
 replace e2 := e2.st k36
 replace e3 := e3.st k36
 replace rp16 := rp16.st k36
 replace rp5 := rp5.st k36
 replace rp2 := rp2.st k36
 replace rp6 := rp6.st k36
 replace kk := kk.trans k36
 replace kS2 := kS2.trans k36
 rw [hn6] at s
 try rw [hn6]
 obtain ⟨I18, s', k37, hc22, e22⟩ := St.give s (i := 0) rfl rfl rp16
 replace s := s'; clear s'
 replace e13 := e13.st k37
 replace e21 := e21.st k37
 replace e16 := e16.st k37
 replace e4 := e4.st k37
 replace e5 := e5.st k37
 replace e6 := e6.st k37
 replace e7 := e7.st k37
 replace e1 := e1.st k37
 replace e2 := e2.st k37
 replace e3 := e3.st k37
 replace rp5 := rp5.st k37
 replace rp2 := rp2.st k37
 replace rp6 := rp6.st k37
 replace kk := kk.trans k37
 replace kS2 := kS2.trans k37
 refine RD.op (i := 17) rfl (by kernel_rfl) (by kernel_rfl) (OK.new hT (f := fun b => .slice (some ⟨b, 0, none⟩) 1 1) (cs := [.slice A31 x19.length u31, .slice A32 x20.length u32]) (e := 48) (c := .tt) s (by kernel_rfl) trivial ?_)
 clear s
 rintro w36 b13 s k38 -
 replace e13 := e13.st k38
 replace e21 := e21.st k38
 replace e16 := e16.st k38
 replace e22 := e22.st k38
 replace e4 := e4.st k38
 replace e5 := e5.st k38
 replace e6 := e6.st k38
 replace e7 := e7.st k38
 replace e1 := e1.st k38
 replace e2 := e2.st k38
 replace e3 := e3.st k38
 replace rp5 := rp5.st k38
 replace rp2 := rp2.st k38
 replace rp6 := rp6.st k38
 replace kk := kk.trans k38
 replace kS2 := kS2.trans k38
 have rp17 : RepL rp_T_api_Pair I18 w36 [.slice A31 x19.length u31, .slice A32 x20.length u32] ([(T_api_Pair.mk x19 x20)] : List T_api_Pair) := RepL.cons (c := [.slice A31 x19.length u31, .slice A32 x20.length u32]) (d := []) (⟨[.slice A31 x19.length u31], [.slice A32 x20.length u32], rfl, ⟨_, _, rfl, hc21.1, hc21.2, e21⟩, ⟨_, _, rfl, hc22.1, hc22.2, e22⟩⟩) (RepL.nil)
 replace s : St w1 M I18 ((.sl (.slice (some ⟨b13, 0, none⟩) 1 1) 48 2 1 [.slice A31 x19.length u31, .slice A32 x20.length u32]) :: (.blk b9 (.cells #[.bool p0.Leaf, .slice A16 x11.length u16, .slice none 0 0, .slice A15 x9.length u15] 26 (0, 0))) :: (.sl (.slice A15 x9.length u15) 3 1 x9.length cl8) :: (.blk b8 (.cells #[.bool false, .slice none 0 0, .slice none 0 0, .slice none 0 0] 26 (0, 0))) :: (.blk b7 (.cells #[.bool p0.Leaf, .slice (some ⟨b10, 0, none⟩) x3.length u12, .slice none 0 0, .slice none 0 0] 26 (0, 0))) :: (.sl (.slice (some ⟨b10, 0, none⟩) x3.length u12) 48 2 x3.length cl5) :: (.blk b6 (.cells #[.bool false, .slice none 0 0, .slice none 0 0, .slice none 0 0] 26 (0, 0))) :: (.blk b4 (.cells #[.bool p0.Leaf, .slice (some ⟨b10, 0, none⟩) x3.length u12, .slice none 0 0, .slice none 0 0] 26 (0, 0))) :: (.blk b3 (.cells #[.bool false, .slice none 0 0, .slice none 0 0, .slice none 0 0] 26 (0, 0))) :: (.blk b2 (.cells #[.bool p2.Leaf, .slice A5 p2.Pairs.length u5, .slice A6 p2.Keys.length u6, .slice A7 p2.Kids.length u7] 26 (0, 0))) :: (.blk b1 (.cells #[.bool p0.Leaf, .slice A1 p0.Pairs.length u1, .slice A2 p0.Keys.length u2, .slice A3 p0.Kids.length u3] 26 (0, 0))) :: (.sl (.slice A16 x11.length u16) 48 2 x11.length cl9) :: F) w36 := s.blkSl (i := 0) (n := 1) (c := 1) (size := 2) rfl rfl (Nat.le_refl _) (by decide)
 refine ⟨fun _ => ⟨_, s.pick [1, 2, 3, 4, 5, 6, 7, 8, 9, 10, 11] 12 rfl, kS2⟩, RD.fold ?_⟩
 have hs5 := St.src s (i := 0) rfl rfl rp17
 have rq5 := rp17
 obtain ⟨x21, hx13, hf⟩ := bindS hf
 refine RD.op (i := 18) rfl (by kernel_rfl) (by kernel_rfl) (OK.app hT (r := rp_T_api_Pair) (i := 11) (t := 22) (e := 48) (size := 2) (bytes := 48) (c := u16) (n := x11.length) (m := 1) s (by kernel_rfl) rfl rfl rfl rfl rfl (by decide) rfl rfl rfl rfl rp6 hs5 rq5 (flat_iso (flat_pair flat_slice flat_slice)) rfl hx13 ?_)
 clear s
 rintro A33 u33 cl18 w37 s k39 rp18
 replace e13 := e13.st k39
 replace e21 := e21.st k39
 replace e16 := e16.st k39
 replace e22 := e22.st k39
 replace e4 := e4.st k39
 replace e5 := e5.st k39
 replace e6 := e6.st k39
 replace e7 := e7.st k39
 replace e1 := e1.st k39
 replace e2 := e2.st k39
 replace e3 := e3.st k39
 replace rp17 := rp17.st k39
 replace rp5 := rp5.st k39
 replace rp2 := rp2.st k39
 replace rp6 := rp6.st k39
 replace kk := kk.trans k39
 replace kS2 := kS2.trans k39
 refine ⟨fun h => absurd h (by decide), RD.fold ?_⟩
 refine RD.op (i := 19) rfl (by kernel_rfl) (by kernel_rfl) (OK.pure hT (ld := undef) (v := .pointer (some ⟨b9, 1, none⟩)) (c := .tt) (by kernel_rfl) (trivial) ?_)
 refine ⟨fun h => absurd h (by decide), RD.fold ?_⟩
 refine RD.op (i := 20) rfl (by kernel_rfl) (by kernel_rfl) (OK.store hT (i := 1) (b := b9) (off := 1) (n := 1) (vs := [.slice A33 x21.length u33]) (cs := [.bool p0.Leaf, (.slice A16 x11.length u16), .slice none 0 0, .slice A15 x9.length u15]) (e := 26) s (by kernel_rfl) rfl rfl (flat_ok rfl) (Nat.le_of_ble_eq_true rfl) ?_)
 clear s
 rintro w38 s k40 -
 replace e13 := e13.st k40
 replace e21 := e21.st k40
 replace e16 := e16.st k40
 replace e22 := e22.st k40
 replace e4 := e4.st k40
 replace e5 := e5.st k40
 replace e6 := e6.st k40
 replace e7 := e7.st k40
 replace e1 := e1.st k40
 replace e2 := e2.st k40
 replace e3 := e3.st k40
 replace rp17 := rp17.st k40
 replace rp5 := rp5.st k40
 replace rp2 := rp2.st k40
 replace rp18 := rp18.st k40
 replace kk := kk.trans k40
 replace kS2 := kS2.trans k40
 refine ⟨fun h => absurd h (by decide), RD.fold ?_⟩
 refine RD.done (by kernel_rfl) ?_
 refine WPK.region ?_
 refine RW.seg hT 3 [] [] [.int .i64 x10, .int .i64 (IntKind.i64.wrap (x10 + 1)), .int .i64 (IntKind.i64.wrap (x10 + 1))] [] (by kernel_rfl) (trivial) ?_
 refine RW.nil ?_
 subst hrec1
 replace s := s.pick [1, 2, 3, 4, 5, 6, 7, 8, 9, 10, 11] 12 rfl
 exact ⟨n4, Nat.le_refl _, fun X h => kc (by kernel_rfl) rfl (h I18 (IntKind.i64.wrap (x10 + 1)) x21 A33 u33 cl18 _ hf s kk rp18 e5 e6 e7 e1 e2 e3 rp5 rp2 e4)⟩
 have hf := iteF h4 hf
 refine WPK.condF (Eq.trans (b := .bool (decide (x10 < (x3.length : Int)))) (by kernel_rfl) (bo_f h4)) ?_
 refine WPK.exit (blockQ.same ?_)
 refine WPK.seq ?_
 refine WPK.seq ?_
 refine WPK.region ?_
 refine RW.seg hT 1 [] [] [.int .i64 0] [] (by kernel_rfl) (trivial) ?_
 refine RW.nil ?_
 refine WPK.block ?_
 refine WPK.loop' (J := fun n11 D4 ds wz => ∀ X : Kont, (g38_l5 p0 x9 x11 n11 = some r → X [(gd D4 0), .pointer (some ⟨b7, 0, none⟩), .pointer (some ⟨b8, 0, none⟩), .pointer (some ⟨b9, 0, none⟩), (gd D4 4), .int .i64 0, (gd D4 6), (gd D4 7), (gd D4 8), (gd D4 9), (gd D4 10), (gd D4 11), (gd D4 12), (gd D4 13), (gd D4 14), (gd D4 15), (gd D4 16), (gd D4 17), (gd D4 18), (gd D4 19), (gd D4 20), (gd D4 21), (gd D4 22), (gd D4 23), (gd D4 24), (gd D4 25), (gd D4 26), (gd D4 27), (gd D4 28), (gd D4 29), (gd D4 30), (gd D4 31), (gd D4 32), (gd D4 33), (gd D4 34), (gd D4 35), (gd D4 36), (gd D4 37), (gd D4 38), undef, undef, undef, undef, undef, undef, undef, undef, undef, undef, undef, undef, undef, undef, undef, undef, undef, undef, undef] [] w22) → X D4 ds wz) FUEL (fun X h => kc (by kernel_rfl) rfl (h hf)) (fun _ _ _ hJ => hJ (fun _ _ _ => False) (by intro hf; exact noneS hf)) ?_
 intro X11 hX11
 refine fun n11 D4 _ _ hJ => hJ (X11 n11) ?_
 intro hf
 refine hX11 _ _ _ _ ?_
 replace hf : g38_l5B p0 x9 x11 (g38_l5 p0 x9 x11 n11) = some r := hf
 generalize hrec2 : g38_l5 p0 x9 x11 n11 = rec2 at hf
 unfold g38_l5B at hf
 refine WPK.seq ?_
 refine WPK.seq ?_
 refine WPK.region ?_
 refine RW.seg hT 5 [.slice none 0 0] [] [.int .i64 0, .pointer (some ⟨b7, 2, none⟩), .slice none 0 0, .int .i64 0, .bool false] [.cell ⟨b7, 2, none⟩ (.slice none 0 0)] (by kernel_rfl) (s.cell (i := 3) (off := 2) rfl rfl) ?_
 refine RW.nil ?_
 refine WPK.condF (by kernel_rfl) ?_
 refine WPK.exit (blockQ.same ?_)
 refine WPK.seq ?_
 refine WPK.region ?_
 refine RW.seg hT 1 [.agg #[.bool p0.Leaf, .slice A16 x11.length u16, .slice none 0 0, .slice A15 x9.length u15]] [] [.agg #[.bool p0.Leaf, .slice A16 x11.length u16, .slice none 0 0, .slice A15 x9.length u15]] [.cells ⟨b9, 0, none⟩ [.bool p0.Leaf, .slice A16 x11.length u16, .slice none 0 0, .slice A15 x9.length u15] 4] (by kernel_rfl) (s.cells (i := 0) rfl rfl rfl) ?_
 refine RW.op (by kernel_rfl) (OK.store hT (i := 2) (b := b8) (off := 0) (n := 4) (vs := [.bool p0.Leaf, .slice A16 x11.length u16, .slice none 0 0, .slice A15 x9.length u15]) (cs := [.bool false, .slice none 0 0, .slice none 0 0, .slice none 0 0]) (e := 26) s (by kernel_rfl) rfl rfl (flat_ok rfl) (Nat.le_of_ble_eq_true rfl) ?_)
 clear s
 rintro w39 s k41 -
 replace e4 := e4.st k41
 replace e5 := e5.st k41
 replace e6 := e6.st k41
 replace e7 := e7.st k41
 replace e1 := e1.st k41
 replace e2 := e2.st k41
 replace e3 := e3.st k41
 replace rp5 := rp5.st k41
 replace rp2 := rp2.st k41
 replace rp6 := rp6.st k41
 replace kk := kk.trans k41
 refine RW.nil ?_
 refine WPK.ret (?_)
 refine Fin.of (rs := [.cell 2 26]) hT [.agg #[.bool p0.Leaf, .slice A16 x11.length u16, .slice none 0 0, .slice A15 x9.length u15]] (.agg #[.bool p0.Leaf, .slice A16 x11.length u16, .slice none 0 0, .slice A15 x9.length u15]) [.cells ⟨b8, 0, none⟩ [.bool p0.Leaf, .slice A16 x11.length u16, .slice none 0 0, .slice A15 x9.length u15] 4] rfl (by kernel_rfl) (s.cells (i := 2) rfl rfl rfl) ?_
 refine hR2 _ _ ?_
 refine RW.op (by kernel_rfl) (OK.store hT (i := 5) (b := b6) (off := 0) (n := 4) (vs := [.bool p0.Leaf, .slice A16 x11.length u16, .slice none 0 0, .slice A15 x9.length u15]) (cs := [.bool false, .slice none 0 0, .slice none 0 0, .slice none 0 0]) (e := 26) s (by kernel_rfl) rfl rfl (flat_ok rfl) (Nat.le_of_ble_eq_true rfl) ?_)
 clear s
 rintro w40 s k42 -
 replace e4 := e4.st k42
 replace e5 := e5.st k42
 replace e6 := e6.st k42
 replace e7 := e7.st k42
 replace e1 := e1.st k42
 replace e2 := e2.st k42
 replace e3 := e3.st k42
 replace rp5 := rp5.st k42
 replace rp2 := rp2.st k42
 replace rp6 := rp6.st k42
 replace kk := kk.trans k42
 refine RW.seg hT 1 [] [] [.int .i64 0] [] (by kernel_rfl) (trivial) ?_
 refine RW.nil ?_
 refine WPK.ret (?_)
 refine Fin.of (rs := [.cell 2 26, .tmp 3]) hT [.agg #[.bool p0.Leaf, .slice A16 x11.length u16, .slice none 0 0, .slice A15 x9.length u15]] (.tuple #[.agg #[.bool p0.Leaf, .slice A16 x11.length u16, .slice none 0 0, .slice A15 x9.length u15], .int .i64 0]) [.cells ⟨b6, 0, none⟩ [.bool p0.Leaf, .slice A16 x11.length u16, .slice none 0 0, .slice A15 x9.length u15] 4] rfl (by kernel_rfl) (s.cells (i := 5) rfl rfl rfl) ?_
 replace s := s.pick [4, 6, 7, 8, 9, 10, 1] 11 rfl
 exact fun X h => vc rfl (h I6 p0.Leaf x11 x9 0 A16 u16 cl9 A15 u15 cl8 _ hf s kk e4 rp6 rp5 e5 e6 e7 e1 e2 e3 rp2)
 have e4S3 := e4
 have e5S3 := e5
 have e6S3 := e6
 have e7S3 := e7
 have e1S3 := e1
 have e2S3 := e2
 have e3S3 := e3
 have rp2S3 := rp2
 have kS3 : Kp I4 w20 I4 w20 := Kp.refl
 refine WPK.drawM (fun w' => ∃ I' : Nat → Prop, St w1 M I' ((.blk b8 (.cells #[.bool false, .slice none 0 0, .slice none 0 0, .slice none 0 0] 26 (0, 0))) :: (.blk b7 (.cells #[.bool p0.Leaf, .slice A12 x3.length u12, .slice none 0 0, .slice none 0 0] 26 (0, 0))) :: (.sl (.slice A12 x3.length u12) 48 2 x3.length cl5) :: (.blk b6 (.cells #[.bool false, .slice none 0 0, .slice none 0 0, .slice none 0 0] 26 (0, 0))) :: (.blk b5 (.cells #[.bool p0.Leaf, .slice A12 x3.length u12, .slice none 0 0, .slice none 0 0] 26 (0, 0))) :: (.blk b4 (.cells #[.bool p0.Leaf, .slice A12 x3.length u12, .slice none 0 0, .slice none 0 0] 26 (0, 0))) :: (.blk b3 (.cells #[.bool false, .slice none 0 0, .slice none 0 0, .slice none 0 0] 26 (0, 0))) :: (.blk b2 (.cells #[.bool p2.Leaf, .slice A5 p2.Pairs.length u5, .slice A6 p2.Keys.length u6, .slice A7 p2.Kids.length u7] 26 (0, 0))) :: (.blk b1 (.cells #[.bool p0.Leaf, .slice A1 p0.Pairs.length u1, .slice A2 p0.Keys.length u2, .slice A3 p0.Kids.length u3] 26 (0, 0))) :: F) w' ∧ Kp I4 w20 I' w') 8 [0, 1, 0, 4, 12, 31, 0, 127] (by kernel_rfl) (by kernel_rfl) ?_
 intro ht3 w41 hd3
 have k43 := Kp.dr s hd3
 replace s := s.dr hd3
 replace e4 := e4.st k43
 replace e5 := e5.st k43
 replace e6 := e6.st k43
 replace e7 := e7.st k43
 replace e1 := e1.st k43
 replace e2 := e2.st k43
 replace e3 := e3.st k43
 replace rp2 := rp2.st k43
 replace kk := kk.trans k43
 replace kS3 := kS3.trans k43
 refine RD.segM hT ht3 (by kernel_rfl) [0, 1, 2, 3] [.bool p0.Leaf, .slice none 0 0] [] [.pointer (some ⟨b7, 0, none⟩), .bool p0.Leaf, .pointer (some ⟨b7, 3, none⟩), .slice none 0 0] [.cell ⟨b7, 0, none⟩ (.bool p0.Leaf), .cell ⟨b7, 3, none⟩ (.slice none 0 0)] (by kernel_rfl) (by rintro w' ⟨I', s, k⟩; have e4 := e4S3.st k; have e5 := e5S3.st k; have e6 := e6S3.st k; have e7 := e7S3.st k; have e1 := e1S3.st k; have e2 := e2S3.st k; have e3 := e3S3.st k; have rp2 := rp2S3.st k; exact ⟨s.cell (i := 1) (off := 0) rfl rfl, s.cell (i := 1) (off := 3) rfl rfl⟩) ⟨_, s.pick [0, 1, 2, 3, 4, 5, 6, 7, 8] 9 rfl, kS3⟩ ?_
 obtain ⟨x22, hx14, hf⟩ := bindS hf
 refine RD.ways [4, 6] (by kernel_rfl) (List.forall_mem_cons.2 ⟨?_, List.forall_mem_cons.2 ⟨?_, fun _ h => nomatch h⟩⟩)
 replace s := s.pushNil 3 1
 obtain ⟨nw3, hs6, rq6⟩ := Elems.src (Elems.nil (r := (Rp.int .i64)))
 refine RWay.op rfl (by kernel_rfl) (OK.app hT (r := (Rp.int .i64)) (i := 0) (t := 24) (e := 3) (size := 1) (bytes := 8) (c := 0) (n := 0) (m := 0) s (by kernel_rfl) rfl rfl rfl rfl rfl (by decide) rfl rfl rfl rfl (RepL.nil (r := (Rp.int .i64))) hs6 rq6 flat_int rfl hx14 ?_)
 clear s
 rintro A34 u34 cl19 w42 s k44 rp19
 replace e4 := e4.st k44
 replace e5 := e5.st k44
 replace e6 := e6.st k44
 replace e7 := e7.st k44
 replace e1 := e1.st k44
 replace e2 := e2.st k44
 replace e3 := e3.st k44
 replace rp2 := rp2.st k44
 replace kk := kk.trans k44
 replace kS3 := kS3.trans k44
 refine ⟨fun _ => ⟨_, s.pick [1, 2, 3, 4, 5, 6, 7, 8, 9] 10 rfl, kS3⟩, RD.fold ?_⟩
 refine RD.segM hT ht3 (by kernel_rfl) [5] [] [] [.agg #[.bool p0.Leaf, .slice none 0 0, .slice none 0 0, .slice A34 x22.length u34]] [] (by kernel_rfl) (fun _ _ => trivial) ⟨_, s.pick [1, 2, 3, 4, 5, 6, 7, 8, 9] 10 rfl, kS3⟩ ?_
 refine RD.op (i := 6) rfl (by kernel_rfl) (by kernel_rfl) (OK.new hT (f := fun b => .pointer (some ⟨b, 0, none⟩)) (cs := [.bool false, .slice none 0 0, .slice none 0 0, .slice none 0 0]) (e := 26) (c := .tt) s (by kernel_rfl) trivial ?_)
 clear s
 rintro w43 b14 s k45 -
 replace e4 := e4.st k45
 replace e5 := e5.st k45
 replace e6 := e6.st k45
 replace e7 := e7.st k45
 replace e1 := e1.st k45
 replace e2 := e2.st k45
 replace e3 := e3.st k45
 replace rp19 := rp19.st k45
 replace rp2 := rp2.st k45
 replace kk := kk.trans k45
 replace kS3 := kS3.trans k45
 refine ⟨fun _ => ⟨_, s.pick [2, 3, 4, 5, 6, 7, 8, 9, 10] 11 rfl, kS3⟩, RD.fold ?_⟩
 refine RD.op (i := 7) rfl (by kernel_rfl) (by kernel_rfl) (OK.store hT (i := 0) (b := b14) (off := 0) (n := 4) (vs := [.bool p0.Leaf, .slice none 0 0, .slice none 0 0, .slice A34 x22.length u34]) (cs := [.bool false, .slice none 0 0, .slice none 0 0, .slice none 0 0]) (e := 26) s (by kernel_rfl) rfl rfl (flat_ok rfl) (Nat.le_of_ble_eq_true rfl) ?_)
 clear s
 rintro w44 s k46 -
 replace e4 := e4.st k46
 replace e5 := e5.st k46
 replace e6 := e6.st k46
 replace e7 := e7.st k46
 replace e1 := e1.st k46
 replace e2 := e2.st k46
 replace e3 := e3.st k46
 replace rp19 := rp19.st k46
 replace rp2 := rp2.st k46
 replace kk := kk.trans k46
 replace kS3 := kS3.trans k46
 refine ⟨fun _ => ⟨_, s.pick [2, 3, 4, 5, 6, 7, 8, 9, 10] 11 rfl, kS3⟩, RD.fold ?_⟩
 refine RD.done (by kernel_rfl) ?_
 replace s := s.pick [0, 1, 2, 3, 4, 5, 7, 8, 9, 10] 11 rfl
 exact fun X h => kc (by kernel_rfl) rfl (h I4 x22 b14 A34 u34 cl19 _ hf s kk rp19 e5 e6 e7 e1 e2 e3 rp2 e4)
 refine RWay.op rfl (by kernel_rfl) (OK.new hT (f := fun b => .pointer (some ⟨b, 0, none⟩)) (cs := [.bool false, .slice none 0 0, .slice none 0 0, .slice none 0 0]) (e := 26) (c := .tt) s (by kernel_rfl) trivial ?_)
 clear s
 rintro w43 b14 s k45 -
 replace e4 := e4.st k45
 replace e5 := e5.st k45
 replace e6 := e6.st k45
 replace e7 := e7.st k45
 replace e1 := e1.st k45
 replace e2 := e2.st k45
 replace e3 := e3.st k45
 replace rp2 := rp2.st k45
 replace kk := kk.trans k45
 replace kS3 := kS3.trans k45
 refine ⟨fun _ => ⟨_, s.pick [1, 2, 3, 4, 5, 6, 7, 8, 9] 10 rfl, kS3⟩, RD.fold ?_⟩
 replace s := s.pushNil 3 1
 obtain ⟨nw3, hs6, rq6⟩ := Elems.src (Elems.nil (r := (Rp.int .i64)))
 refine RD.op (i := 4) rfl (by kernel_rfl) (by kernel_rfl) (OK.app hT (r := (Rp.int .i64)) (i := 0) (t := 24) (e := 3) (size := 1) (bytes := 8) (c := 0) (n := 0) (m := 0) s (by kernel_rfl) rfl rfl rfl rfl rfl (by decide) rfl rfl rfl rfl (RepL.nil (r := (Rp.int .i64))) hs6 rq6 flat_int rfl hx14 ?_)
 clear s
 rintro A34 u34 cl19 w42 s k44 rp19
 replace e4 := e4.st k44
 replace e5 := e5.st k44
 replace e6 := e6.st k44
 replace e7 := e7.st k44
 replace e1 := e1.st k44
 replace e2 := e2.st k44
 replace e3 := e3.st k44
 replace rp2 := rp2.st k44
 replace kk := kk.trans k44
 replace kS3 := kS3.trans k44
 refine ⟨fun _ => ⟨_, s.pick [2, 3, 4, 5, 6, 7, 8, 9, 10] 11 rfl, kS3⟩, RD.fold ?_⟩
 refine RD.segM hT ht3 (by kernel_rfl) [5] [] [] [.agg #[.bool p0.Leaf, .slice none 0 0, .slice none 0 0, .slice A34 x22.length u34]] [] (by kernel_rfl) (fun _ _ => trivial) ⟨_, s.pick [2, 3, 4, 5, 6, 7, 8, 9, 10] 11 rfl, kS3⟩ ?_
 refine RD.op (i := 7) rfl (by kernel_rfl) (by kernel_rfl) (OK.store hT (i := 1) (b := b14) (off := 0) (n := 4) (vs := [.bool p0.Leaf, .slice none 0 0, .slice none 0 0, .slice A34 x22.length u34]) (cs := [.bool false, .slice none 0 0, .slice none 0 0, .slice none 0 0]) (e := 26) s (by kernel_rfl) rfl rfl (flat_ok rfl) (Nat.le_of_ble_eq_true rfl) ?_)
 clear s
 rintro w45 s k47 -
 replace e4 := e4.st k47
 replace e5 := e5.st k47
 replace e6 := e6.st k47
 replace e7 := e7.st k47
 replace e1 := e1.st k47
 replace e2 := e2.st k47
 replace e3 := e3.st k47
 replace rp19 := rp19.st k47
 replace rp2 := rp2.st k47
 replace kk := kk.trans k47
 replace kS3 := kS3.trans k47
 refine ⟨fun _ => ⟨_, s.pick [2, 3, 4, 5, 6, 7, 8, 9, 10] 11 rfl, kS3⟩, RD.fold ?_⟩
 refine RD.done (by kernel_rfl) ?_
 replace s := s.pick [1, 0, 2, 3, 4, 5, 7, 8, 9, 10] 11 rfl
 exact fun X h => kc (by kernel_rfl) rfl (h I4 x22 b14 A34 u34 cl19 _ hf s kk rp19 e5 e6 e7 e1 e2 e3 rp2 e4)
 have hf := iteF h2 hf
 refine WPK.condF (Eq.trans (b := .bool p0.Leaf) (by kernel_rfl) (b_f h2)) ?_
 refine WPK.skip ?_
 refine WPK.seq ?_
 refine WPK.seq ?_
 refine WPK.region ?_
 refine RW.seg hT 1 [] [] [.slice A4 p1.length u4] [] (by kernel_rfl) (trivial) ?_
 obtain ⟨x23, hx15, hf⟩ := bindS hf
 refine RW.op (by kernel_rfl) (OK.call' en54 (by kernel_rfl) (c54 (F := (.blk b4 (.cells #[.bool p0.Leaf, .slice none 0 0, .slice none 0 0, .slice none 0 0] 26 (0, 0))) :: (.blk b3 (.cells #[.bool false, .slice none 0 0, .slice none 0 0, .slice none 0 0] 26 (0, 0))) :: (.blk b2 (.cells #[.bool p2.Leaf, .slice A5 p2.Pairs.length u5, .slice A6 p2.Keys.length u6, .slice A7 p2.Kids.length u7] 26 (0, 0))) :: (.blk b1 (.cells #[.bool p0.Leaf, .slice A1 p0.Pairs.length u1, .slice A2 p0.Keys.length u2, .slice A3 p0.Kids.length u3] 26 (0, 0))) :: F) p1 A4 u4 hc4 e4 s hx15) ?_)
 intro X12 hX12
 refine fun _ _ hJ => hJ X12 ?_
 clear s
 intro I19 w46 s k48
 refine hX12 _ _ ?_
 replace e4 := e4.st k48
 replace e5 := e5.st k48
 replace e6 := e6.st k48
 replace e7 := e7.st k48
 replace e1 := e1.st k48
 replace e2 := e2.st k48
 replace e3 := e3.st k48
 replace kk := kk.trans k48
 refine RW.seg hT 1 [] [(45, .bool (decide (¬ (x23 = true))))] [.bool (decide (¬ (x23 = true)))] [.veq (.bool (!x23)) (.bool (decide (¬ (x23 = true))))] (by kernel_rfl) (not_b) ?_
 refine RW.nil ?_
 by_cases h7 : ¬ (x23 = true)
 have hf := iteT h7 hf
 refine WPK.condT (Eq.trans (b := .bool (decide (¬ (x23 = true)))) (by kernel_rfl) (bo_t h7)) ?_
 refine WPK.seq ?_
 refine WPK.region ?_
 refine RW.seg hT 1 [] [] [.agg #[.bool false, .slice none 0 0, .slice none 0 0, .slice none 0 0]] [] (by kernel_rfl) (trivial) ?_
 refine RW.op (by kernel_rfl) (OK.store hT (i := 1) (b := b3) (off := 0) (n := 4) (vs := [.bool false, .slice none 0 0, .slice none 0 0, .slice none 0 0]) (cs := [.bool false, .slice none 0 0, .slice none 0 0, .slice none 0 0]) (e := 26) s (by kernel_rfl) rfl rfl (flat_ok rfl) (Nat.le_of_ble_eq_true rfl) ?_)
 clear s
 rintro w47 s k49 -
 replace e4 := e4.st k49
 replace e5 := e5.st k49
 replace e6 := e6.st k49
 replace e7 := e7.st k49
 replace e1 := e1.st k49
 replace e2 := e2.st k49
 replace e3 := e3.st k49
 replace kk := kk.trans k49
 refine RW.seg hT 1 [] [] [.int .i64 1] [] (by kernel_rfl) (trivial) ?_
 refine RW.nil ?_
 refine WPK.ret (?_)
 obtain rfl := someS hf
 refine Fin.of (rs := [.cell 6 26, .tmp 7]) hT [.agg #[.bool false, .slice none 0 0, .slice none 0 0, .slice none 0 0]] (.tuple #[.agg #[.bool false, .slice none 0 0, .slice none 0 0, .slice none 0 0], .int .i64 1]) [.cells ⟨b3, 0, none⟩ [.bool false, .slice none 0 0, .slice none 0 0, .slice none 0 0] 4] rfl (by kernel_rfl) (s.cells (i := 1) rfl rfl rfl) ?_
 replace s := s.pushNil 48 2
 replace s := s.pushNil 27 1
 replace s := s.pushNil 3 1
 replace s := s.pick [2, 1, 0] 7 rfl
 exact fun X h => vc rfl (h I19 none 0 0 [] none 0 0 [] none 0 0 [] _ s kk rfl (RepL.nil (r := rp_T_api_Pair)) rfl (RepL.nil (r := (Rp.slice (Rp.int .u8)))) rfl (RepL.nil (r := (Rp.int .i64))))
 have hf := iteF h7 hf
 refine WPK.condF (Eq.trans (b := .bool (decide (¬ (x23 = true)))) (by kernel_rfl) (bo_f h7)) ?_
 refine WPK.skip ?_
 refine WPK.seq ?_
 refine WPK.cut' (Kn fun D5 ds wz => ∀ X : Kont, (∀ (I20 : Nat → Prop) (x24 : (List (List Int))) (A35 : Option Addr) (u35 : Nat) (cl20 : List Value) (w' : World), g38_j6 p0 p2 x24 = some r → St w1 M I20 ((.sl (.slice A35 x24.length u35) 27 1 x24.length cl20) :: (.blk b4 (.cells #[.bool p0.Leaf, .slice none 0 0, .slice A35 x24.length u35, .slice none 0 0] 26 (0, 0))) :: (.blk b3 (.cells #[.bool false, .slice none 0 0, .slice none 0 0, .slice none 0 0] 26 (0, 0))) :: (.blk b2 (.cells #[.bool p2.Leaf, .slice A5 p2.Pairs.length u5, .slice A6 p2.Keys.length u6, .slice A7 p2.Kids.length u7] 26 (0, 0))) :: (.blk b1 (.cells #[.bool p0.Leaf, .slice A1 p0.Pairs.length u1, .slice A2 p0.Keys.length u2, .slice A3 p0.Kids.length u3] 26 (0, 0))) :: F) w' → Kp I w I20 w' → RepL (Rp.slice (Rp.int .u8)) I20 w' cl20 x24 → Elems rp_T_api_Pair I20 w' A5 p2.Pairs → Elems (Rp.slice (Rp.int .u8)) I20 w' A6 p2.Keys → Elems (Rp.int .i64) I20 w' A7 p2.Kids → Elems rp_T_api_Pair I20 w' A1 p0.Pairs → Elems (Rp.slice (Rp.int .u8)) I20 w' A2 p0.Keys → Elems (Rp.int .i64) I20 w' A3 p0.Kids → X [(gd D5 0), (gd D5 1), (gd D5 2), .pointer (some ⟨b1, 0, none⟩), (gd D5 4), .pointer (some ⟨b2, 0, none⟩), .pointer (some ⟨b3, 0, none⟩), .int .i64 0, .pointer (some ⟨b4, 0, none⟩), (gd D5 9), (gd D5 10), (gd D5 11), (gd D5 12), (gd D5 13), (gd D5 14), (gd D5 15), (gd D5 16), (gd D5 17), (gd D5 18), (gd D5 19), (gd D5 20), (gd D5 21), (gd D5 22), (gd D5 23), (gd D5 24), (gd D5 25), (gd D5 26), (gd D5 27), (gd D5 28), (gd D5 29), (gd D5 30), (gd D5 31), (gd D5 32), (gd D5 33), (gd D5 34), (gd D5 35), (gd D5 36), (gd D5 37), (gd D5 38), (gd D5 39), (gd D5 40), (gd D5 41), (gd D5 42), (gd D5 43), (gd D5 44), (gd D5 45), (gd D5 46), (gd D5 47), (gd D5 48), (gd D5 49), (gd D5 50), (gd D5 51), (gd D5 52), (gd D5 53), (gd D5 54), (gd D5 55), (gd D5 56), (gd D5 57), (gd D5 58), undef, undef, undef, undef, undef, undef, undef, undef, undef, undef, undef, undef, undef] [] w') → X D5 ds wz) ?_ ?_
 intro X13 hX13
 refine fun D5 _ _ hJ => hJ X13 ?_
 clear s
 intro I20 x24 A35 u35 cl20 w48 hf s kk rp20 e5 e6 e7 e1 e2 e3
 refine hX13 _ _ _ ?_
 unfold g38_j6 at hf
 refine WPK.seq ?_
 have e5S4 := e5
 have e6S4 := e6
 have e7S4 := e7
 have e1S4 := e1
 have e2S4 := e2
 have e3S4 := e3
 have rp20S4 := rp20
 have kS4 : Kp I20 w48 I20 w48 := Kp.refl
 refine WPK.drawM (fun w' => ∃ I' : Nat → Prop, St w1 M I' ((.sl (.slice A35 x24.length u35) 27 1 x24.length cl20) :: (.blk b3 (.cells #[.bool false, .slice none 0 0, .slice none 0 0, .slice none 0 0] 26 (0, 0))) :: (.blk b2 (.cells #[.bool p2.Leaf, .slice A5 p2.Pairs.length u5, .slice A6 p2.Keys.length u6, .slice A7 p2.Kids.length u7] 26 (0, 0))) :: (.blk b1 (.cells #[.bool p0.Leaf, .slice A1 p0.Pairs.length u1, .slice A2 p0.Keys.length u2, .slice A3 p0.Kids.length u3] 26 (0, 0))) :: F) w' ∧ Kp I20 w48 I' w') 10 [0, 1, 0, 4, 15, 0, 32, 127, 255, 511] (by kernel_rfl) (by kernel_rfl) ?_
 intro ht4 w49 hd4
 have k50 := Kp.dr s hd4
 replace s := s.dr hd4
 replace e5 := e5.st k50
 replace e6 := e6.st k50
 replace e7 := e7.st k50
 replace e1 := e1.st k50
 replace e2 := e2.st k50
 replace e3 := e3.st k50
 replace rp20 := rp20.st k50
 replace kk := kk.trans k50
 replace kS4 := kS4.trans k50
 refine RD.segM hT ht4 (by kernel_rfl) [0, 2, 3, 5, 6] [.slice A3 p0.Kids.length u3, .slice A7 p2.Kids.length u7] [] [.pointer (some ⟨b4, 3, none⟩), .pointer (some ⟨b1, 3, none⟩), .slice A3 p0.Kids.length u3, .pointer (some ⟨b2, 3, none⟩), .slice A7 p2.Kids.length u7] [.cell ⟨b1, 3, none⟩ (.slice A3 p0.Kids.length u3), .cell ⟨b2, 3, none⟩ (.slice A7 p2.Kids.length u7)] (by kernel_rfl) (by rintro w' ⟨I', s, k⟩; have e5 := e5S4.st k; have e6 := e6S4.st k; have e7 := e7S4.st k; have e1 := e1S4.st k; have e2 := e2S4.st k; have e3 := e3S4.st k; have rp20 := rp20S4.st k; exact ⟨s.cell (i := 3) (off := 3) rfl rfl, s.cell (i := 2) (off := 3) rfl rfl⟩) ⟨_, s.pick [0, 2, 3, 4] 5 rfl, kS4⟩ ?_
 refine RD.op (i := 1) rfl (by kernel_rfl) (by kernel_rfl) (OK.pure hT (ld := (.slice none 0 0)) (v := .slice none 0 0) (c := .cell ⟨b4, 3, none⟩ (.slice none 0 0)) (by kernel_rfl) (s.cell (i := 1) (off := 3) rfl rfl) ?_)
 refine ⟨fun _ => ⟨_, s.pick [0, 2, 3, 4] 5 rfl, kS4⟩, RD.fold ?_⟩
 replace s := s.pushNil 3 1
 obtain ⟨nw4, hs7, rq7⟩ := Elems.src e3
 obtain ⟨x25, hx16, hf⟩ := bindS hf
 refine RD.op (i := 4) rfl (by kernel_rfl) (by kernel_rfl) (OK.app hT (r := (Rp.int .i64)) (i := 0) (t := 24) (e := 3) (size := 1) (bytes := 8) (c := 0) (n := 0) (m := p0.Kids.length) s (by kernel_rfl) rfl rfl rfl rfl rfl (by decide) rfl rfl rfl rfl (RepL.nil (r := (Rp.int .i64))) hs7 rq7 flat_int rfl hx16 ?_)
 clear s
 rintro A36 u36 cl21 w50 s k51 rp21
 replace e3 := e3.st k51
 replace e7 := e7.st k51
 replace e5 := e5.st k51
 replace e6 := e6.st k51
 replace e1 := e1.st k51
 replace e2 := e2.st k51
 replace rp20 := rp20.st k51
 replace kk := kk.trans k51
 replace kS4 := kS4.trans k51
 refine ⟨fun _ => ⟨_, s.pick [1, 3, 4, 5] 6 rfl, kS4⟩, RD.fold ?_⟩
 obtain ⟨nw5, hs8, rq8⟩ := Elems.src e7
 obtain ⟨x26, hx17, hf⟩ := bindS hf
 refine RD.op (i := 7) rfl (by kernel_rfl) (by kernel_rfl) (OK.app hT (r := (Rp.int .i64)) (i := 0) (t := 24) (e := 3) (size := 1) (bytes := 8) (c := u36) (n := x25.length) (m := p2.Kids.length) s (by kernel_rfl) rfl rfl rfl rfl rfl (by decide) rfl rfl rfl rfl rp21 hs8 rq8 flat_int rfl hx17 ?_)
 clear s
 rintro A37 u37 cl22 w51 s k52 rp22
 replace e3 := e3.st k52
 replace e7 := e7.st k52
 replace e5 := e5.st k52
 replace e6 := e6.st k52
 replace e1 := e1.st k52
 replace e2 := e2.st k52
 replace rp21 := rp21.st k52
 replace rp20 := rp20.st k52
 replace kk := kk.trans k52
 replace kS4 := kS4.trans k52
 refine ⟨fun _ => ⟨_, s.pick [1, 3, 4, 5] 6 rfl, kS4⟩, RD.fold ?_⟩
 refine RD.segM hT ht4 (by kernel_rfl) [8] [] [] [.pointer (some ⟨b4, 3, none⟩)] [] (by kernel_rfl) (fun _ _ => trivial) ⟨_, s.pick [1, 3, 4, 5] 6 rfl, kS4⟩ ?_
 refine RD.op (i := 9) rfl (by kernel_rfl) (by kernel_rfl) (OK.store hT (i := 2) (b := b4) (off := 3) (n := 1) (vs := [.slice A37 x26.length u37]) (cs := [.bool p0.Leaf, .slice none 0 0, .slice A35 x24.length u35, .slice none 0 0]) (e := 26) s (by kernel_rfl) rfl rfl (flat_ok rfl) (Nat.le_of_ble_eq_true rfl) ?_)
 clear s
 rintro w52 s k53 -
 replace e3 := e3.st k53
 replace e7 := e7.st k53
 replace e5 := e5.st k53
 replace e6 := e6.st k53
 replace e1 := e1.st k53
 replace e2 := e2.st k53
 replace rp22 := rp22.st k53
 replace rp20 := rp20.st k53
 replace kk := kk.trans k53
 replace kS4 := kS4.trans k53
 refine ⟨fun _ => ⟨_, s.pick [1, 3, 4, 5] 6 rfl, kS4⟩, RD.fold ?_⟩
 refine RD.done (by kernel_rfl) ?_
 refine WPK.seq ?_
 refine WPK.region ?_
 refine RW.seg hT 1 [.agg #[.bool p0.Leaf, .slice none 0 0, .slice A35 x24.length u35, .slice A37 x26.length u37]] [] [.agg #[.bool p0.Leaf, .slice none 0 0, .slice A35 x24.length u35, .slice A37 x26.length u37]] [.cells ⟨b4, 0, none⟩ [.bool p0.Leaf, .slice none 0 0, .slice A35 x24.length u35, .slice A37 x26.length u37] 4] (by kernel_rfl) (s.cells (i := 2) rfl rfl rfl) ?_
 refine RW.op (by kernel_rfl) (OK.inl (args := [.agg #[.bool p0.Leaf, .slice none 0 0, .slice A35 x24.length u35, .slice A37 x26.length u37]]) en80 (by kernel_rfl) ?_)
 intro R3 hR3
 refine Ret.of Try.func80 rfl ?_
 refine WPK.seq ?_
 refine WPK.region ?_
 refine RW.op (by kernel_rfl) (OK.new hT (f := fun b => .pointer (some ⟨b, 0, none⟩)) (cs := [.bool p0.Leaf, .slice none 0 0, .slice A35 x24.length u35, .slice A37 x26.length u37]) (e := 26) (c := .tt) s (by kernel_rfl) trivial ?_)
 clear s
 rintro w53 b15 s k54 -
 replace e5 := e5.st k54
 replace e6 := e6.st k54
 replace e7 := e7.st k54
 replace e1 := e1.st k54
 replace e2 := e2.st k54
 replace e3 := e3.st k54
 replace rp22 := rp22.st k54
 replace rp20 := rp20.st k54
 replace kk := kk.trans k54
 refine RW.op (by kernel_rfl) (OK.new hT (f := fun b => .pointer (some ⟨b, 0, none⟩)) (cs := [.bool false, .slice none 0 0, .slice none 0 0, .slice none 0 0]) (e := 26) (c := .tt) s (by kernel_rfl) trivial ?_)
 clear s
 rintro w54 b16 s k55 -
 replace e5 := e5.st k55
 replace e6 := e6.st k55
 replace e7 := e7.st k55
 replace e1 := e1.st k55
 replace e2 := e2.st k55
 replace e3 := e3.st k55
 replace rp22 := rp22.st k55
 replace rp20 := rp20.st k55
 replace kk := kk.trans k55
 refine RW.seg hT 1 [] [] [.int .i64 0] [] (by kernel_rfl) (trivial) ?_
 refine RW.nil ?_
 refine WPK.seq ?_
 refine WPK.seq ?_
 refine WPK.region ?_
 refine RW.seg hT 1 [.agg #[.bool p0.Leaf, .slice none 0 0, .slice A35 x24.length u35, .slice A37 x26.length u37]] [] [.agg #[.bool p0.Leaf, .slice none 0 0, .slice A35 x24.length u35, .slice A37 x26.length u37]] [.cells ⟨b15, 0, none⟩ [.bool p0.Leaf, .slice none 0 0, .slice A35 x24.length u35, .slice A37 x26.length u37] 4] (by kernel_rfl) (s.cells (i := 1) rfl rfl rfl) ?_
 have sa2 := s
 obtain ⟨hc23, e23⟩ := St.lend s (i := 3) rfl rfl rp20
 have k56 := Kp.shut (I := I20) (w := w54) (p := .sl (.slice A35 x24.length u35) 27 1 x24.length cl20)
 replace s := s.shut 3 rfl
 have sa3 := s
 obtain ⟨hc24, e24⟩ := St.lend s (i := 2) rfl rfl (rp22.st k56)
 have k57 := Kp.shut (I := (fun k => I20 k ∨ (It.sl (.slice A35 x24.length u35) 27 1 x24.length cl20).foot = some k)) (w := w54) (p := .sl (.slice A37 x26.length u37) 3 1 x26.length cl22)
 replace s := s.shut 2 rfl
 replace e23 := e23.st k57
 obtain ⟨x27, hx18, hf⟩ := bindS hf
 refine RW.op (by kernel_rfl) (OK.call' en18 (by kernel_rfl) (c18 (F := (.blk b16 (.cells #[.bool false, .slice none 0 0, .slice none 0 0, .slice none 0 0] 26 (0, 0))) :: (.blk b15 (.cells #[.bool p0.Leaf, .slice none 0 0, .slice A35 x24.length u35, .slice A37 x26.length u37] 26 (0, 0))) :: (.blk b4 (.cells #[.bool p0.Leaf, .slice none 0 0, .slice A35 x24.length u35, .slice A37 x26.length u37] 26 (0, 0))) :: (.blk b3 (.cells #[.bool false, .slice none 0 0, .slice none 0 0, .slice none 0 0] 26 (0, 0))) :: (.blk b2 (.cells #[.bool p2.Leaf, .slice A5 p2.Pairs.length u5, .slice A6 p2.Keys.length u6, .slice A7 p2.Kids.length u7] 26 (0, 0))) :: (.blk b1 (.cells #[.bool p0.Leaf, .slice A1 p0.Pairs.length u1, .slice A2 p0.Keys.length u2, .slice A3 p0.Kids.length u3] 26 (0, 0))) :: F) (T_api_Node.mk p0.Leaf [] x24 x26) none 0 A35 u35 A37 u37 nil_hc Elems.nil hc23 e23 hc24 e24 s hx18) ?_)
 intro X14 hX14
 refine fun _ _ hJ => hJ X14 ?_
 clear s
 intro I21 w55 s k58
 refine hX14 _ _ ?_
 have s' := St.back sa3 (i := 2) rfl s k58
 replace k58 := Kp.back sa3 (i := 2) rfl k58
 replace s := s'; clear s'
 have s' := St.back sa2 (i := 3) rfl s k58
 replace k58 := Kp.back sa2 (i := 3) rfl k58
 replace s := s'; clear s'
 obtain ⟨I22, s, k58⟩ : ∃ I : Nat → Prop, St w1 M I ((.sl (.slice A35 x24.length u35) 27 1 x24.length cl20) :: (.sl (.slice A37 x26.length u37) 3 1 x26.length cl22) :: (.blk b16 (.cells #[.bool false, .slice none 0 0, .slice none 0 0, .slice none 0 0] 26 (0, 0))) :: (.blk b15 (.cells #[.bool p0.Leaf, .slice none 0 0, .slice A35 x24.length u35, .slice A37 x26.length u37] 26 (0, 0))) :: (.blk b4 (.cells #[.bool p0.Leaf, .slice none 0 0, .slice A35 x24.length u35, .slice A37 x26.length u37] 26 (0, 0))) :: (.blk b3 (.cells #[.bool false, .slice none 0 0, .slice none 0 0, .slice none 0 0] 26 (0, 0))) :: (.blk b2 (.cells #[.bool p2.Leaf, .slice A5 p2.Pairs.length u5, .slice A6 p2.Keys.length u6, .slice A7 p2.Kids.length u7] 26 (0, 0))) :: (.blk b1 (.cells #[.bool p0.Leaf, .slice A1 p0.Pairs.length u1, .slice A2 p0.Keys.length u2, .slice A3 p0.Kids.length u3] 26 (0, 0))) :: F) w55 ∧ Kp _ _ I _ := ⟨_, s, k58⟩
 replace e5 := e5.st k58
 replace e6 := e6.st k58
 replace e7 := e7.st k58
 replace e1 := e1.st k58
 replace e2 := e2.st k58
 replace e3 := e3.st k58
 replace rp20 := rp20.st k58
 replace rp22 := rp22.st k58
 replace kk := kk.trans k58
 refine RW.seg hT 1 [] [(6, .bool (decide (¬ (x27 = true))))] [.bool (decide (¬ (x27 = true)))] [.veq (.bool (!x27)) (.bool (decide (¬ (x27 = true))))] (by kernel_rfl) (not_b) ?_
 refine RW.nil ?_
 by_cases h8 : ¬ (x27 = true)
 have hf := iteT h8 hf
 refine WPK.condT (Eq.trans (b := .bool (decide (¬ (x27 = true)))) (by kernel_rfl) (bo_t h8)) ?_
 refine WPK.seq ?_
 refine WPK.region ?_
 refine RW.seg hT 1 [] [] [.agg #[.bool false, .slice none 0 0, .slice none 0 0, .slice none 0 0]] [] (by kernel_rfl) (trivial) ?_
 refine RW.op (by kernel_rfl) (OK.store hT (i := 2) (b := b16) (off := 0) (n := 4) (vs := [.bool false, .slice none 0 0, .slice none 0 0, .slice none 0 0]) (cs := [.bool false, .slice none 0 0, .slice none 0 0, .slice none 0 0]) (e := 26) s (by kernel_rfl) rfl rfl (flat_ok rfl) (Nat.le_of_ble_eq_true rfl) ?_)
 clear s
 rintro w56 s k59 -
 replace e5 := e5.st k59
 replace e6 := e6.st k59
 replace e7 := e7.st k59
 replace e1 := e1.st k59
 replace e2 := e2.st k59
 replace e3 := e3.st k59
 replace rp20 := rp20.st k59
 replace rp22 := rp22.st k59
 replace kk := kk.trans k59
 refine RW.seg hT 1 [] [] [.int .i64 100] [] (by kernel_rfl) (trivial) ?_
 refine RW.nil ?_
 refine WPK.ret (?_)
 refine Fin.of (rs := [.cell 2 26, .tmp 3]) hT [.agg #[.bool false, .slice none 0 0, .slice none 0 0, .slice none 0 0]] (.tuple #[.agg #[.bool false, .slice none 0 0, .slice none 0 0, .slice none 0 0], .int .i64 100]) [.cells ⟨b16, 0, none⟩ [.bool false, .slice none 0 0, .slice none 0 0, .slice none 0 0] 4] rfl (by kernel_rfl) (s.cells (i := 2) rfl rfl rfl) ?_
 refine hR3 _ _ ?_
 refine RW.seg hT 2 [] [] [.agg #[.bool false, .slice none 0 0, .slice none 0 0, .slice none 0 0], .int .i64 100] [] (by kernel_rfl) (trivial) ?_
 refine RW.op (by kernel_rfl) (OK.store hT (i := 5) (b := b3) (off := 0) (n := 4) (vs := [.bool false, .slice none 0 0, .slice none 0 0, .slice none 0 0]) (cs := [.bool false, .slice none 0 0, .slice none 0 0, .slice none 0 0]) (e := 26) s (by kernel_rfl) rfl rfl (flat_ok rfl) (Nat.le_of_ble_eq_true rfl) ?_)
 clear s
 rintro w57 s k60 -
 replace e5 := e5.st k60
 replace e6 := e6.st k60
 replace e7 := e7.st k60
 replace e1 := e1.st k60
 replace e2 := e2.st k60
 replace e3 := e3.st k60
 replace rp20 := rp20.st k60
 replace rp22 := rp22.st k60
 replace kk := kk.trans k60
 refine RW.seg hT 1 [] [] [.int .i64 100] [] (by kernel_rfl) (trivial) ?_
 refine RW.nil ?_
 refine WPK.ret (?_)
 obtain rfl := someS hf
 refine Fin.of (rs := [.cell 6 26, .tmp 7]) hT [.agg #[.bool false, .slice none 0 0, .slice none 0 0, .slice none 0 0]] (.tuple #[.agg #[.bool false, .slice none 0 0, .slice none 0 0, .slice none 0 0], .int .i64 100]) [.cells ⟨b3, 0, none⟩ [.bool false, .slice none 0 0, .slice none 0 0, .slice none 0 0] 4] rfl (by kernel_rfl) (s.cells (i := 5) rfl rfl rfl) ?_
 replace s := s.pushNil 48 2
 replace s := s.pushNil 27 1
 replace s := s.pushNil 3 1
 replace s := s.pick [2, 1, 0] 11 rfl
 exact fun X h => vc rfl (h I22 none 0 0 [] none 0 0 [] none 0 0 [] _ s kk rfl (RepL.nil (r := rp_T_api_Pair)) rfl (RepL.nil (r := (Rp.slice (Rp.int .u8)))) rfl (RepL.nil (r := (Rp.int .i64))))
 have hf := iteF h8 hf
 refine WPK.condF (Eq.trans (b := .bool (decide (¬ (x27 = true)))) (by kernel_rfl) (bo_f h8)) ?_
 refine WPK.skip ?_
 refine WPK.seq ?_
 refine WPK.region ?_
 refine RW.seg hT 1 [.agg #[.bool p0.Leaf, .slice none 0 0, .slice A35 x24.length u35, .slice A37 x26.length u37]] [] [.agg #[.bool p0.Leaf, .slice none 0 0, .slice A35 x24.length u35, .slice A37 x26.length u37]] [.cells ⟨b15, 0, none⟩ [.bool p0.Leaf, .slice none 0 0, .slice A35 x24.length u35, .slice A37 x26.length u37] 4] (by kernel_rfl) (s.cells (i := 3) rfl rfl rfl) ?_
 refine RW.op (by kernel_rfl) (OK.inl (args := [.agg #[.bool p0.Leaf, .slice none 0 0, .slice A35 x24.length u35, .slice A37 x26.length u37]]) en24 (by kernel_rfl) ?_)
 intro R4 hR4
 refine Ret.of Try.func24 rfl ?_
 refine WPK.seq ?_
 refine WPK.region ?_
 refine RW.op (by kernel_rfl) (OK.new hT (f := fun b => .pointer (some ⟨b, 0, none⟩)) (cs := [.bool p0.Leaf, .slice none 0 0, .slice A35 x24.length u35, .slice A37 x26.length u37]) (e := 26) (c := .tt) s (by kernel_rfl) trivial ?_)
 clear s
 rintro w58 b17 s k61 -
 replace e5 := e5.st k61
 replace e6 := e6.st k61
 replace e7 := e7.st k61
 replace e1 := e1.st k61
 replace e2 := e2.st k61
 replace e3 := e3.st k61
 replace rp20 := rp20.st k61
 replace rp22 := rp22.st k61
 replace kk := kk.trans k61
 refine RW.op (by kernel_rfl) (OK.new hT (f := fun b => .pointer (some ⟨b, 0, none⟩)) (cs := [.bool false, .slice none 0 0, .slice none 0 0, .slice none 0 0]) (e := 26) (c := .tt) s (by kernel_rfl) trivial ?_)
 clear s
 rintro w59 b18 s k62 -
 replace e5 := e5.st k62
 replace e6 := e6.st k62
 replace e7 := e7.st k62
 replace e1 := e1.st k62
 replace e2 := e2.st k62
 replace e3 := e3.st k62
 replace rp20 := rp20.st k62
 replace rp22 := rp22.st k62
 replace kk := kk.trans k62
 refine RW.nil ?_
 refine WPK.seq ?_
 refine WPK.cut' (Kn fun D6 ds wz => ∀ X : Kont, (∀ (I23 : Nat → Prop) (x28 : (List Int)) (b19 : Nat) (A38 : Option Addr) (u38 : Nat) (cl23 : List Value) (w' : World), g38_j7 p0 x24 x28 = some r → St w1 M I23 ((.blk b19 (.cells #[.bool p0.Leaf, .slice none 0 0, .slice none 0 0, .slice A38 x28.length u38] 26 (0, 0))) :: (.sl (.slice A38 x28.length u38) 3 1 x28.length cl23) :: (.blk b18 (.cells #[.bool false, .slice none 0 0, .slice none 0 0, .slice none 0 0] 26 (0, 0))) :: (.blk b17 (.cells #[.bool p0.Leaf, .slice none 0 0, .slice A35 x24.length u35, .slice A37 x26.length u37] 26 (0, 0))) :: (.sl (.slice A35 x24.length u35) 27 1 x24.length cl20) :: (.sl (.slice A37 x26.length u37) 3 1 x26.length cl22) :: (.blk b16 (.cells #[.bool false, .slice none 0 0, .slice none 0 0, .slice none 0 0] 26 (0, 0))) :: (.blk b3 (.cells #[.bool false, .slice none 0 0, .slice none 0 0, .slice none 0 0] 26 (0, 0))) :: F) w' → Kp I w I23 w' → RepL (Rp.int .i64) I23 w' cl23 x28 → RepL (Rp.slice (Rp.int .u8)) I23 w' cl20 x24 → RepL (Rp.int .i64) I23 w' cl22 x26 → X [(gd D6 0), .pointer (some ⟨b17, 0, none⟩), .pointer (some ⟨b18, 0, none⟩), .pointer (some ⟨b19, 0, none⟩), undef, undef, (gd D6 6), (gd D6 7), (gd D6 8), (gd D6 9), (gd D6 10), (gd D6 11), undef, undef, undef, undef, undef, undef, undef, undef, undef, undef, undef, undef, undef, undef, undef, undef, undef, undef, undef, undef, undef, undef, undef, undef, undef, undef, undef, undef, undef, undef, undef, undef, undef, undef, undef, undef, undef, undef, undef, undef, undef, undef, undef, undef, undef, undef] [] w') → X D6 ds wz) ?_ ?_
 intro X15 hX15
 refine fun D6 _ _ hJ => hJ X15 ?_
 clear s
 intro I23 x28 b19 A38 u38 cl23 w60 hf s kk rp23 rp20 rp22
 refine hX15 _ _ _ ?_
 unfold g38_j7 at hf
 refine WPK.seq ?_
 refine WPK.seq ?_
 refine WPK.region ?_
 refine RW.seg hT 1 [] [] [.int .i64 0] [] (by kernel_rfl) (trivial) ?_
 refine RW.nil ?_
 refine WPK.block ?_
 refine WPK.loop' (J := fun n12 D7 ds wz => ∀ X : Kont, (g38_l8 p0 x24 x28 n12 = some r → X [(gd D7 0), .pointer (some ⟨b17, 0, none⟩), .pointer (some ⟨b18, 0, none⟩), .pointer (some ⟨b19, 0, none⟩), .int .i64 0, undef, (gd D7 6), (gd D7 7), (gd D7 8), (gd D7 9), (gd D7 10), (gd D7 11), undef, undef, undef, undef, undef, undef, undef, undef, undef, undef, undef, undef, undef, undef, undef, undef, undef, undef, undef, undef, undef, undef, undef, undef, undef, undef, undef, undef, undef, undef, undef, undef, undef, undef, undef, undef, undef, undef, undef, undef, undef, undef, undef, undef, undef, undef] [] w60) → X D7 ds wz) FUEL (fun X h => kc (by kernel_rfl) rfl (h hf)) (fun _ _ _ hJ => hJ (fun _ _ _ => False) (by intro hf; exact noneS hf)) ?_
 intro X16 hX16
 refine fun n12 D7 _ _ hJ => hJ (X16 n12) ?_
 intro hf
 refine hX16 _ _ _ _ ?_
 replace hf : g38_l8B p0 x24 x28 (g38_l8 p0 x24 x28 n12) = some r := hf
 generalize hrec3 : g38_l8 p0 x24 x28 n12 = rec3 at hf
 unfold g38_l8B at hf
 refine WPK.seq ?_
 refine WPK.seq ?_
 refine WPK.region ?_
 refine RW.seg hT 5 [.slice none 0 0] [] [.int .i64 0, .pointer (some ⟨b17, 1, none⟩), .slice none 0 0, .int .i64 0, .bool false] [.cell ⟨b17, 1, none⟩ (.slice none 0 0)] (by kernel_rfl) (s.cell (i := 3) (off := 1) rfl rfl) ?_
 refine RW.nil ?_
 refine WPK.condF (by kernel_rfl) ?_
 refine WPK.exit (blockQ.same ?_)
 refine WPK.seq ?_
 refine WPK.seq ?_
 refine WPK.region ?_
 refine RW.seg hT 1 [] [] [.int .i64 0] [] (by kernel_rfl) (trivial) ?_
 refine RW.nil ?_
 refine WPK.block ?_
 replace s := s.pushNil 27 1
 replace s := s.pick [1, 2, 3, 4, 5, 6, 7, 8, 0] 9 rfl
 refine WPK.loop' (J := fun n13 D8 ds wz => ∀ X : Kont, (∀ (I24 : Nat → Prop) (x29 : Int) (x30 : (List (List Int))) (A39 : Option Addr) (u39 : Nat) (cl24 : List Value) (w' : World), g38_l9 p0 x24 x28 n13 x29 x30 = some r → St w1 M I24 ((.blk b19 (.cells #[.bool p0.Leaf, .slice none 0 0, .slice A39 x30.length u39, .slice A38 x28.length u38] 26 (0, 0))) :: (.sl (.slice A38 x28.length u38) 3 1 x28.length cl23) :: (.blk b18 (.cells #[.bool false, .slice none 0 0, .slice none 0 0, .slice none 0 0] 26 (0, 0))) :: (.blk b17 (.cells #[.bool p0.Leaf, .slice none 0 0, .slice A35 x24.length u35, .slice A37 x26.length u37] 26 (0, 0))) :: (.sl (.slice A35 x24.length u35) 27 1 x24.length cl20) :: (.sl (.slice A37 x26.length u37) 3 1 x26.length cl22) :: (.blk b16 (.cells #[.bool false, .slice none 0 0, .slice none 0 0, .slice none 0 0] 26 (0, 0))) :: (.blk b3 (.cells #[.bool false, .slice none 0 0, .slice none 0 0, .slice none 0 0] 26 (0, 0))) :: (.sl (.slice A39 x30.length u39) 27 1 x30.length cl24) :: F) w' → Kp I w I24 w' → RepL (Rp.slice (Rp.int .u8)) I24 w' cl24 x30 → RepL (Rp.int .i64) I24 w' cl23 x28 → RepL (Rp.slice (Rp.int .u8)) I24 w' cl20 x24 → RepL (Rp.int .i64) I24 w' cl22 x26 → X [(gd D8 0), .pointer (some ⟨b17, 0, none⟩), .pointer (some ⟨b18, 0, none⟩), .pointer (some ⟨b19, 0, none⟩), (gd D8 4), .int .i64 x29, (gd D8 6), (gd D8 7), (gd D8 8), (gd D8 9), (gd D8 10), (gd D8 11), (gd D8 12), (gd D8 13), (gd D8 14), (gd D8 15), (gd D8 16), (gd D8 17), (gd D8 18), (gd D8 19), (gd D8 20), (gd D8 21), (gd D8 22), (gd D8 23), (gd D8 24), (gd D8 25), (gd D8 26), (gd D8 27), (gd D8 28), (gd D8 29), (gd D8 30), (gd D8 31), (gd D8 32), (gd D8 33), (gd D8 34), (gd D8 35), (gd D8 36), (gd D8 37), (gd D8 38), (gd D8 39), (gd D8 40), (gd D8 41), (gd D8 42), (gd D8 43), (gd D8 44), (gd D8 45), (gd D8 46), (gd D8 47), (gd D8 48), (gd D8 49), (gd D8 50), (gd D8 51), (gd D8 52), (gd D8 53), (gd D8 54), (gd D8 55), (gd D8 56), undef] [] w') → X D8 ds wz) FUEL (fun X h => kc (by kernel_rfl) rfl (h I23 0 ([] : List (List Int)) none 0 [] _ hf s kk (RepL.nil (r := (Rp.slice (Rp.int .u8)))) rp23 rp20 rp22)) (fun _ _ _ hJ => hJ (fun _ _ _ => False) (by intro I24 x29 x30 A39 u39 cl24 w61 hf s kk rp24 rp23 rp20 rp22; exact noneS hf)) ?_
 intro X17 hX17
 refine fun n13 D8 _ _ hJ => hJ (X17 n13) ?_
 clear s
 intro I24 x29 x30 A39 u39 cl24 w61 hf s kk rp24 rp23 rp20 rp22
 refine hX17 _ _ _ _ ?_
 replace hf : g38_l9B p0 x24 x28 (g38_l9 p0 x24 x28 n13) x29 x30 = some r := hf
 generalize hrec4 : g38_l9 p0 x24 x28 n13 = rec4 at hf
 unfold g38_l9B at hf
 refine WPK.seq ?_
 refine WPK.seq ?_
 refine WPK.region ?_
 refine RW.seg hT 5 [.slice A35 x24.length u35] [(42, .int .i64 (x24.length : Int))] [.int .i64 x29, .pointer (some ⟨b17, 2, none⟩), .slice A35 x24.length u35, .int .i64 (x24.length : Int), .bool (decide (x29 < (x24.length : Int)))] [.cell ⟨b17, 2, none⟩ (.slice A35 x24.length u35), .veq (.int .i64 (x24.length : Nat)) (.int .i64 (x24.length : Int))] (by kernel_rfl) (⟨s.cell (i := 3) (off := 2) rfl rfl, len_v rfl⟩) ?_
 refine RW.nil ?_
 by_cases h9 : x29 < (x24.length : Int)
 have hf := iteT h9 hf
 refine WPK.condT (Eq.trans (b := .bool (decide (x29 < (x24.length : Int)))) (by kernel_rfl) (bo_t h9)) ?_
 refine WPK.skip ?_
 refine WPK.seq ?_
 refine WPK.block ?_
 have rp23S5 := rp23
 have rp20S5 := rp20
 have rp22S5 := rp22
 have rp24S5 := rp24
 have kS5 : Kp I24 w61 I24 w61 := Kp.refl
 refine WPK.drawM (fun w' => ∃ I' : Nat → Prop, St w1 M I' ((.blk b19 (.cells #[.bool p0.Leaf, .slice none 0 0, .slice A39 x30.length u39, .slice A38 x28.length u38] 26 (0, 0))) :: (.sl (.slice A38 x28.length u38) 3 1 x28.length cl23) :: (.blk b18 (.cells #[.bool false, .slice none 0 0, .slice none 0 0, .slice none 0 0] 26 (0, 0))) :: (.blk b17 (.cells #[.bool p0.Leaf, .slice none 0 0, .slice A35 x24.length u35, .slice A37 x26.length u37] 26 (0, 0))) :: (.sl (.slice A35 x24.length u35) 27 1 x24.length cl20) :: (.sl (.slice A37 x26.length u37) 3 1 x26.length cl22) :: (.blk b16 (.cells #[.bool false, .slice none 0 0, .slice none 0 0, .slice none 0 0] 26 (0, 0))) :: (.blk b3 (.cells #[.bool false, .slice none 0 0, .slice none 0 0, .slice none 0 0] 26 (0, 0))) :: (.sl (.slice A39 x30.length u39) 27 1 x30.length cl24) :: F) w' ∧ Kp I24 w61 I' w') 9 [0, 1, 0, 4, 0, 28, 60, 124, 252, 511, 1023, 2047] (by kernel_rfl) (by kernel_rfl) ?_
 intro ht5 w62 hd5
 have k63 := Kp.dr s hd5
 replace s := s.dr hd5
 replace rp23 := rp23.st k63
 replace rp20 := rp20.st k63
 replace rp22 := rp22.st k63
 replace rp24 := rp24.st k63
 replace kk := kk.trans k63
 replace kS5 := kS5.trans k63
 obtain ⟨x31, hx19, hf⟩ := bindS hf
 obtain ⟨h10, hx19⟩ := getS hx19
 obtain ⟨b20, rfl⟩ := (St.elem s (i := 4) rfl rfl rp20 hx19).1
 refine RD.segM hT ht5 (by kernel_rfl) [0, 1, 2, 3, 4, 5] [.slice A39 x30.length u39, .slice (some ⟨b20, 0, none⟩) x24.length u35] [] [.pointer (some ⟨b19, 2, none⟩), .slice A39 x30.length u39, .pointer (some ⟨b17, 2, none⟩), .slice (some ⟨b20, 0, none⟩) x24.length u35, .int .i64 x29, .pointer (some ⟨b20, 0 + x29.toNat * 1, none⟩)] [.cell ⟨b19, 2, none⟩ (.slice A39 x30.length u39), .cell ⟨b17, 2, none⟩ (.slice (some ⟨b20, 0, none⟩) x24.length u35), .idx x29 x24.length] (by kernel_rfl) (by rintro w' ⟨I', s, k⟩; have rp23 := rp23S5.st k; have rp20 := rp20S5.st k; have rp22 := rp22S5.st k; have rp24 := rp24S5.st k; obtain ⟨-, cs13, hr13, ha5⟩ := St.elem s (i := 4) rfl rfl rp20 hx19; replace ha5 := ha5 _ rfl; obtain ⟨A40, u40, rfl, q17, q18, e25⟩ := hr13; have hc25 := And.intro q17 q18; exact ⟨s.cell (i := 0) (off := 2) rfl rfl, s.cell (i := 3) (off := 2) rfl rfl, h10⟩) ⟨_, s.pick [0, 1, 2, 3, 4, 5, 6, 7, 8] 9 rfl, kS5⟩ ?_
 obtain ⟨-, cs14, hr14, ha6⟩ := St.elem s (i := 4) rfl rfl rp20 hx19
 replace ha6 := ha6 _ rfl
 obtain ⟨A41, u41, rfl, q19, q20, e26⟩ := hr14
 have hc26 := And.intro q19 q20
 refine RD.op (i := 6) rfl (by kernel_rfl) (by kernel_rfl) (OK.pure hT (ld := (.slice A41 x31.length u41)) (v := .slice A41 x31.length u41) (c := .cell ⟨b20, 0 + x29.toNat * 1, none⟩ (.slice A41 x31.length u41)) (by kernel_rfl) (ha6 0 _ rfl) ?_)
 refine ⟨fun _ => ⟨_, s.pick [0, 1, 2, 3, 4, 5, 6, 7, 8] 9 rfl, kS5⟩, RD.fold ?_⟩
 obtain ⟨x32, hx20, hf⟩ := bindS hf
 refine RD.op (i := 7) rfl (by kernel_rfl) (by kernel_rfl) (OK.call' en58 (by kernel_rfl) (c58 (F := (.blk b19 (.cells #[.bool p0.Leaf, .slice none 0 0, .slice A39 x30.length u39, .slice A38 x28.length u38] 26 (0, 0))) :: (.sl (.slice A38 x28.length u38) 3 1 x28.length cl23) :: (.blk b18 (.cells #[.bool false, .slice none 0 0, .slice none 0 0, .slice none 0 0] 26 (0, 0))) :: (.blk b17 (.cells #[.bool p0.Leaf, .slice none 0 0, .slice (some ⟨b20, 0, none⟩) x24.length u35, .slice A37 x26.length u37] 26 (0, 0))) :: (.sl (.slice (some ⟨b20, 0, none⟩) x24.length u35) 27 1 x24.length cl20) :: (.sl (.slice A37 x26.length u37) 3 1 x26.length cl22) :: (.blk b16 (.cells #[.bool false, .slice none 0 0, .slice none 0 0, .slice none 0 0] 26 (0, 0))) :: (.blk b3 (.cells #[.bool false, .slice none 0 0, .slice none 0 0, .slice none 0 0] 26 (0, 0))) :: (.sl (.slice A39 x30.length u39) 27 1 x30.length cl24) :: F) x31 A41 u41 hc26 e26 s hx20) ?_)
 intro X18 hX18
 refine fun _ _ hJ => hJ X18 ?_
 clear s
 intro I25 A42 n14 u42 cl25 w63 s k64 hn7 rp25
 refine hX18 _ _ ?_
 replace e26 := e26.st k64
 replace rp23 := rp23.st k64
 replace rp20 := rp20.st k64
 replace rp22 := rp22.st k64
 replace rp24 := rp24.st k64
 replace kk := kk.trans k64
 replace kS5 := kS5.trans k64
 refine ⟨fun _ => ⟨_, s.pick [1, 2, 3, 4, 5, 6, 7, 8, 9] 10 rfl, kS5⟩, RD.fold ?_⟩
 rw [hn7] at s
 try rw [hn7]
 obtain ⟨I26, s', k65, hc27, e27⟩ := St.give s (i := 0) rfl rfl rp25
 replace s := s'; clear s'
 replace e26 := e26.st k65
 replace rp23 := rp23.st k65
 replace rp20 := rp20.st k65
 replace rp22 := rp22.st k65
 replace rp24 := rp24.st k65
 replace kk := kk.trans k65
 replace kS5 := kS5.trans k65
 refine RD.op (i := 8) rfl (by kernel_rfl) (by kernel_rfl) (OK.new hT (f := fun b => .slice (some ⟨b, 0, none⟩) 1 1) (cs := [.slice A42 x32.length u42]) (e := 27) (c := .tt) s (by kernel_rfl) trivial ?_)
 clear s
 rintro w64 b21 s k66 -
 replace e26 := e26.st k66
 replace e27 := e27.st k66
 replace rp23 := rp23.st k66
 replace rp20 := rp20.st k66
 replace rp22 := rp22.st k66
 replace rp24 := rp24.st k66
 replace kk := kk.trans k66
 replace kS5 := kS5.trans k66
 have rp26 : RepL (Rp.slice (Rp.int .u8)) I26 w64 [.slice A42 x32.length u42] ([x32] : List (List Int)) := RepL.cons (c := [.slice A42 x32.length u42]) (d := []) (⟨_, _, rfl, hc27.1, hc27.2, e27⟩) (RepL.nil)
 replace s : St w1 M I26 ((.sl (.slice (some ⟨b21, 0, none⟩) 1 1) 27 1 1 [.slice A42 x32.length u42]) :: (.blk b19 (.cells #[.bool p0.Leaf, .slice none 0 0, .slice A39 x30.length u39, .slice A38 x28.length u38] 26 (0, 0))) :: (.sl (.slice A38 x28.length u38) 3 1 x28.length cl23) :: (.blk b18 (.cells #[.bool false, .slice none 0 0, .slice none 0 0, .slice none 0 0] 26 (0, 0))) :: (.blk b17 (.cells #[.bool p0.Leaf, .slice none 0 0, .slice (some ⟨b20, 0, none⟩) x24.length u35, .slice A37 x26.length u37] 26 (0, 0))) :: (.sl (.slice (some ⟨b20, 0, none⟩) x24.length u35) 27 1 x24.length cl20) :: (.sl (.slice A37 x26.length u37) 3 1 x26.length cl22) :: (.blk b16 (.cells #[.bool false, .slice none 0 0, .slice none 0 0, .slice none 0 0] 26 (0, 0))) :: (.blk b3 (.cells #[.bool false, .slice none 0 0, .slice none 0 0, .slice none 0 0] 26 (0, 0))) :: (.sl (.slice A39 x30.length u39) 27 1 x30.length cl24) :: F) w64 := s.blkSl (i := 0) (n := 1) (c := 1) (size := 1) rfl rfl (Nat.le_refl _) (by decide)
 refine ⟨fun _ => ⟨_, s.pick [1, 2, 3, 4, 5, 6, 7, 8, 9] 10 rfl, kS5⟩, RD.fold ?_⟩
 have hs9 := St.src s (i := 0) rfl rfl rp26
 have rq9 := rp26
 obtain ⟨x33, hx21, hf⟩ := bindS hf
 refine RD.op (i := 9) rfl (by kernel_rfl) (by kernel_rfl) (OK.app hT (r := (Rp.slice (Rp.int .u8))) (i := 9) (t := 23) (e := 27) (size := 1) (bytes := 24) (c := u39) (n := x30.length) (m := 1) s (by kernel_rfl) rfl rfl rfl rfl rfl (by decide) rfl rfl rfl rfl rp24 hs9 rq9 flat_slice rfl hx21 ?_)
 clear s
 rintro A43 u43 cl26 w65 s k67 rp27
 replace e26 := e26.st k67
 replace e27 := e27.st k67
 replace rp26 := rp26.st k67
 replace rp23 := rp23.st k67
 replace rp20 := rp20.st k67
 replace rp22 := rp22.st k67
 replace rp24 := rp24.st k67
 replace kk := kk.trans k67
 replace kS5 := kS5.trans k67
 refine ⟨fun h => absurd h (by decide), RD.fold ?_⟩
 refine RD.op (i := 10) rfl (by kernel_rfl) (by kernel_rfl) (OK.pure hT (ld := undef) (v := .pointer (some ⟨b19, 2, none⟩)) (c := .tt) (by kernel_rfl) (trivial) ?_)
 refine ⟨fun h => absurd h (by decide), RD.fold ?_⟩
 refine RD.op (i := 11) rfl (by kernel_rfl) (by kernel_rfl) (OK.store hT (i := 1) (b := b19) (off := 2) (n := 1) (vs := [.slice A43 x33.length u43]) (cs := [.bool p0.Leaf, .slice none 0 0, (.slice A39 x30.length u39), .slice A38 x28.length u38]) (e := 26) s (by kernel_rfl) rfl rfl (flat_ok rfl) (Nat.le_of_ble_eq_true rfl) ?_)
 clear s
 rintro w66 s k68 -
 replace e26 := e26.st k68
 replace e27 := e27.st k68
 replace rp26 := rp26.st k68
 replace rp23 := rp23.st k68
 replace rp20 := rp20.st k68
 replace rp22 := rp22.st k68
 replace rp27 := rp27.st k68
 replace kk := kk.trans k68
 replace kS5 := kS5.trans k68
 refine ⟨fun h => absurd h (by decide), RD.fold ?_⟩
 refine RD.done (by kernel_rfl) ?_
 refine WPK.region ?_
 refine RW.seg hT 3 [] [] [.int .i64 x29, .int .i64 (IntKind.i64.wrap (x29 + 1)), .int .i64 (IntKind.i64.wrap (x29 + 1))] [] (by kernel_rfl) (trivial) ?_
 refine RW.nil ?_
 subst hrec4
 replace s := s.pick [1, 2, 3, 4, 5, 6, 7, 8, 9] 10 rfl
 exact ⟨n13, Nat.le_refl _, fun X h => kc (by kernel_rfl) rfl (h I26 (IntKind.i64.wrap (x29 + 1)) x33 A43 u43 cl26 _ hf s kk rp27 rp23 rp20 rp22)⟩
 have hf := iteF h9 hf
 refine WPK.condF (Eq.trans (b := .bool (decide (x29 < (x24.length : Int)))) (by kernel_rfl) (bo_f h9)) ?_
 refine WPK.exit (blockQ.same ?_)
 refine WPK.seq ?_
 refine WPK.region ?_
 refine RW.seg hT 1 [.agg #[.bool p0.Leaf, .slice none 0 0, .slice A39 x30.length u39, .slice A38 x28.length u38]] [] [.agg #[.bool p0.Leaf, .slice none 0 0, .slice A39 x30.length u39, .slice A38 x28.length u38]] [.cells ⟨b19, 0, none⟩ [.bool p0.Leaf, .slice none 0 0, .slice A39 x30.length u39, .slice A38 x28.length u38] 4] (by kernel_rfl) (s.cells (i := 0) rfl rfl rfl) ?_
 refine RW.op (by kernel_rfl) (OK.store hT (i := 2) (b := b18) (off := 0) (n := 4) (vs := [.bool p0.Leaf, .slice none 0 0, .slice A39 x30.length u39, .slice A38 x28.length u38]) (cs := [.bool false, .slice none 0 0, .slice none 0 0, .slice none 0 0]) (e := 26) s (by kernel_rfl) rfl rfl (flat_ok rfl) (Nat.le_of_ble_eq_true rfl) ?_)
 clear s
 rintro w67 s k69 -
 replace rp23 := rp23.st k69
 replace rp20 := rp20.st k69
 replace rp22 := rp22.st k69
 replace rp24 := rp24.st k69
 replace kk := kk.trans k69
 refine RW.nil ?_
 refine WPK.ret (?_)
 refine Fin.of (rs := [.cell 2 26]) hT [.agg #[.bool p0.Leaf, .slice none 0 0, .slice A39 x30.length u39, .slice A38 x28.length u38]] (.agg #[.bool p0.Leaf, .slice none 0 0, .slice A39 x30.length u39, .slice A38 x28.length u38]) [.cells ⟨b18, 0, none⟩ [.bool p0.Leaf, .slice none 0 0, .slice A39 x30.length u39, .slice A38 x28.length u38] 4] rfl (by kernel_rfl) (s.cells (i := 2) rfl rfl rfl) ?_
 refine hR4 _ _ ?_
 refine RW.op (by kernel_rfl) (OK.store hT (i := 6) (b := b16) (off := 0) (n := 4) (vs := [.bool p0.Leaf, .slice none 0 0, .slice A39 x30.length u39, .slice A38 x28.length u38]) (cs := [.bool false, .slice none 0 0, .slice none 0 0, .slice none 0 0]) (e := 26) s (by kernel_rfl) rfl rfl (flat_ok rfl) (Nat.le_of_ble_eq_true rfl) ?_)
 clear s
 rintro w68 s k70 -
 replace rp23 := rp23.st k70
 replace rp20 := rp20.st k70
 replace rp22 := rp22.st k70
 replace rp24 := rp24.st k70
 replace kk := kk.trans k70
 refine RW.seg hT 1 [] [] [.int .i64 0] [] (by kernel_rfl) (trivial) ?_
 refine RW.nil ?_
 refine WPK.ret (?_)
 refine Fin.of (rs := [.cell 2 26, .tmp 3]) hT [.agg #[.bool p0.Leaf, .slice none 0 0, .slice A39 x30.length u39, .slice A38 x28.length u38]] (.tuple #[.agg #[.bool p0.Leaf, .slice none 0 0, .slice A39 x30.length u39, .slice A38 x28.length u38], .int .i64 0]) [.cells ⟨b16, 0, none⟩ [.bool p0.Leaf, .slice none 0 0, .slice A39 x30.length u39, .slice A38 x28.length u38] 4] rfl (by kernel_rfl) (s.cells (i := 6) rfl rfl rfl) ?_
 refine hR3 _ _ ?_
 refine RW.seg hT 2 [] [] [.agg #[.bool p0.Leaf, .slice none 0 0, .slice A39 x30.length u39, .slice A38 x28.length u38], .int .i64 0] [] (by kernel_rfl) (trivial) ?_
 refine RW.op (by kernel_rfl) (OK.store hT (i := 7) (b := b3) (off := 0) (n := 4) (vs := [.bool p0.Leaf, .slice none 0 0, .slice A39 x30.length u39, .slice A38 x28.length u38]) (cs := [.bool false, .slice none 0 0, .slice none 0 0, .slice none 0 0]) (e := 26) s (by kernel_rfl) rfl rfl (flat_ok rfl) (Nat.le_of_ble_eq_true rfl) ?_)
 clear s
 rintro w69 s k71 -
 replace rp23 := rp23.st k71
 replace rp20 := rp20.st k71
 replace rp22 := rp22.st k71
 replace rp24 := rp24.st k71
 replace kk := kk.trans k71
 refine RW.seg hT 1 [] [] [.int .i64 0] [] (by kernel_rfl) (trivial) ?_
 refine RW.nil ?_
 refine WPK.ret (?_)
 obtain rfl := someS hf
 refine Fin.of (rs := [.cell 6 26, .tmp 7]) hT [.agg #[.bool p0.Leaf, .slice none 0 0, .slice A39 x30.length u39, .slice A38 x28.length u38]] (.tuple #[.agg #[.bool p0.Leaf, .slice none 0 0, .slice A39 x30.length u39, .slice A38 x28.length u38], .int .i64 0]) [.cells ⟨b3, 0, none⟩ [.bool p0.Leaf, .slice none 0 0, .slice A39 x30.length u39, .slice A38 x28.length u38] 4] rfl (by kernel_rfl) (s.cells (i := 7) rfl rfl rfl) ?_
 replace s := s.pushNil 48 2
 replace s := s.pick [0, 9, 2] 10 rfl
 exact fun X h => vc rfl (h I24 none 0 0 [] A39 x30.length u39 cl24 A38 x28.length u38 cl23 _ s kk rfl (RepL.nil (r := rp_T_api_Pair)) rfl rp24 rfl rp23)
 have e5S6 := e5
 have e6S6 := e6
 have e7S6 := e7
 have e1S6 := e1
 have e2S6 := e2
 have e3S6 := e3
 have rp20S6 := rp20
 have rp22S6 := rp22
 have kS6 : Kp I22 w59 I22 w59 := Kp.refl
 refine WPK.drawM (fun w' => ∃ I' : Nat → Prop, St w1 M I' ((.blk b18 (.cells #[.bool false, .slice none 0 0, .slice none 0 0, .slice none 0 0] 26 (0, 0))) :: (.blk b17 (.cells #[.bool p0.Leaf, .slice none 0 0, .slice A35 x24.length u35, .slice A37 x26.length u37] 26 (0, 0))) :: (.sl (.slice A35 x24.length u35) 27 1 x24.length cl20) :: (.sl (.slice A37 x26.length u37) 3 1 x26.length cl22) :: (.blk b16 (.cells #[.bool false, .slice none 0 0, .slice none 0 0, .slice none 0 0] 26 (0, 0))) :: (.blk b15 (.cells #[.bool p0.Leaf, .slice none 0 0, .slice A35 x24.length u35, .slice A37 x26.length u37] 26 (0, 0))) :: (.blk b4 (.cells #[.bool p0.Leaf, .slice none 0 0, .slice A35 x24.length u35, .slice A37 x26.length u37] 26 (0, 0))) :: (.blk b3 (.cells #[.bool false, .slice none 0 0, .slice none 0 0, .slice none 0 0] 26 (0, 0))) :: (.blk b2 (.cells #[.bool p2.Leaf, .slice A5 p2.Pairs.length u5, .slice A6 p2.Keys.length u6, .slice A7 p2.Kids.length u7] 26 (0, 0))) :: (.blk b1 (.cells #[.bool p0.Leaf, .slice A1 p0.Pairs.length u1, .slice A2 p0.Keys.length u2, .slice A3 p0.Kids.length u3] 26 (0, 0))) :: F) w' ∧ Kp I22 w59 I' w') 8 [0, 1, 0, 4, 12, 31, 0, 127] (by kernel_rfl) (by kernel_rfl) ?_
 intro ht6 w70 hd6
 have k72 := Kp.dr s hd6
 replace s := s.dr hd6
 replace e5 := e5.st k72
 replace e6 := e6.st k72
 replace e7 := e7.st k72
 replace e1 := e1.st k72
 replace e2 := e2.st k72
 replace e3 := e3.st k72
 replace rp20 := rp20.st k72
 replace rp22 := rp22.st k72
 replace kk := kk.trans k72
 replace kS6 := kS6.trans k72
 refine RD.segM hT ht6 (by kernel_rfl) [0, 1, 2, 3] [.bool p0.Leaf, .slice A37 x26.length u37] [] [.pointer (some ⟨b17, 0, none⟩), .bool p0.Leaf, .pointer (some ⟨b17, 3, none⟩), .slice A37 x26.length u37] [.cell ⟨b17, 0, none⟩ (.bool p0.Leaf), .cell ⟨b17, 3, none⟩ (.slice A37 x26.length u37)] (by kernel_rfl) (by rintro w' ⟨I', s, k⟩; have e5 := e5S6.st k; have e6 := e6S6.st k; have e7 := e7S6.st k; have e1 := e1S6.st k; have e2 := e2S6.st k; have e3 := e3S6.st k; have rp20 := rp20S6.st k; have rp22 := rp22S6.st k; exact ⟨s.cell (i := 1) (off := 0) rfl rfl, s.cell (i := 1) (off := 3) rfl rfl⟩) ⟨_, s.pick [0, 1, 2, 3, 4, 5, 6, 7, 8, 9] 10 rfl, kS6⟩ ?_
 obtain ⟨x34, hx22, hf⟩ := bindS hf
 refine RD.ways [4, 6] (by kernel_rfl) (List.forall_mem_cons.2 ⟨?_, List.forall_mem_cons.2 ⟨?_, fun _ h => nomatch h⟩⟩)
 replace s := s.pushNil 3 1
 have hs10 := St.src s (i := 4) rfl rfl rp22
 have rq10 := rp22
 refine RWay.op rfl (by kernel_rfl) (OK.app hT (r := (Rp.int .i64)) (i := 0) (t := 24) (e := 3) (size := 1) (bytes := 8) (c := 0) (n := 0) (m := x26.length) s (by kernel_rfl) rfl rfl rfl rfl rfl (by decide) rfl rfl rfl rfl (RepL.nil (r := (Rp.int .i64))) hs10 rq10 flat_int rfl hx22 ?_)
 clear s
 rintro A44 u44 cl27 w71 s k73 rp28
 replace e5 := e5.st k73
 replace e6 := e6.st k73
 replace e7 := e7.st k73
 replace e1 := e1.st k73
 replace e2 := e2.st k73
 replace e3 := e3.st k73
 replace rp20 := rp20.st k73
 replace rp22 := rp22.st k73
 replace kk := kk.trans k73
 replace kS6 := kS6.trans k73
 refine ⟨fun _ => ⟨_, s.pick [1, 2, 3, 4, 5, 6, 7, 8, 9, 10] 11 rfl, kS6⟩, RD.fold ?_⟩
 refine RD.segM hT ht6 (by kernel_rfl) [5] [] [] [.agg #[.bool p0.Leaf, .slice none 0 0, .slice none 0 0, .slice A44 x34.length u44]] [] (by kernel_rfl) (fun _ _ => trivial) ⟨_, s.pick [1, 2, 3, 4, 5, 6, 7, 8, 9, 10] 11 rfl, kS6⟩ ?_
 refine RD.op (i := 6) rfl (by kernel_rfl) (by kernel_rfl) (OK.new hT (f := fun b => .pointer (some ⟨b, 0, none⟩)) (cs := [.bool false, .slice none 0 0, .slice none 0 0, .slice none 0 0]) (e := 26) (c := .tt) s (by kernel_rfl) trivial ?_)
 clear s
 rintro w72 b22 s k74 -
 replace e5 := e5.st k74
 replace e6 := e6.st k74
 replace e7 := e7.st k74
 replace e1 := e1.st k74
 replace e2 := e2.st k74
 replace e3 := e3.st k74
 replace rp28 := rp28.st k74
 replace rp20 := rp20.st k74
 replace rp22 := rp22.st k74
 replace kk := kk.trans k74
 replace kS6 := kS6.trans k74
 refine ⟨fun _ => ⟨_, s.pick [2, 3, 4, 5, 6, 7, 8, 9, 10, 11] 12 rfl, kS6⟩, RD.fold ?_⟩
 refine RD.op (i := 7) rfl (by kernel_rfl) (by kernel_rfl) (OK.store hT (i := 0) (b := b22) (off := 0) (n := 4) (vs := [.bool p0.Leaf, .slice none 0 0, .slice none 0 0, .slice A44 x34.length u44]) (cs := [.bool false, .slice none 0 0, .slice none 0 0, .slice none 0 0]) (e := 26) s (by kernel_rfl) rfl rfl (flat_ok rfl) (Nat.le_of_ble_eq_true rfl) ?_)
 clear s
 rintro w73 s k75 -
 replace e5 := e5.st k75
 replace e6 := e6.st k75
 replace e7 := e7.st k75
 replace e1 := e1.st k75
 replace e2 := e2.st k75
 replace e3 := e3.st k75
 replace rp28 := rp28.st k75
 replace rp20 := rp20.st k75
 replace rp22 := rp22.st k75
 replace kk := kk.trans k75
 replace kS6 := kS6.trans k75
 refine ⟨fun _ => ⟨_, s.pick [2, 3, 4, 5, 6, 7, 8, 9, 10, 11] 12 rfl, kS6⟩, RD.fold ?_⟩
 refine RD.done (by kernel_rfl) ?_
 replace s := s.pick [0, 1, 2, 3, 4, 5, 6, 9] 12 rfl
 exact fun X h => kc (by kernel_rfl) rfl (h I22 x34 b22 A44 u44 cl27 _ hf s kk rp28 rp20 rp22)
 refine RWay.op rfl (by kernel_rfl) (OK.new hT (f := fun b => .pointer (some ⟨b, 0, none⟩)) (cs := [.bool false, .slice none 0 0, .slice none 0 0, .slice none 0 0]) (e := 26) (c := .tt) s (by kernel_rfl) trivial ?_)
 clear s
 rintro w72 b22 s k74 -
 replace e5 := e5.st k74
 replace e6 := e6.st k74
 replace e7 := e7.st k74
 replace e1 := e1.st k74
 replace e2 := e2.st k74
 replace e3 := e3.st k74
 replace rp20 := rp20.st k74
 replace rp22 := rp22.st k74
 replace kk := kk.trans k74
 replace kS6 := kS6.trans k74
 refine ⟨fun _ => ⟨_, s.pick [1, 2, 3, 4, 5, 6, 7, 8, 9, 10] 11 rfl, kS6⟩, RD.fold ?_⟩
 replace s := s.pushNil 3 1
 have hs10 := St.src s (i := 5) rfl rfl rp22
 have rq10 := rp22
 refine RD.op (i := 4) rfl (by kernel_rfl) (by kernel_rfl) (OK.app hT (r := (Rp.int .i64)) (i := 0) (t := 24) (e := 3) (size := 1) (bytes := 8) (c := 0) (n := 0) (m := x26.length) s (by kernel_rfl) rfl rfl rfl rfl rfl (by decide) rfl rfl rfl rfl (RepL.nil (r := (Rp.int .i64))) hs10 rq10 flat_int rfl hx22 ?_)
 clear s
 rintro A44 u44 cl27 w71 s k73 rp28
 replace e5 := e5.st k73
 replace e6 := e6.st k73
 replace e7 := e7.st k73
 replace e1 := e1.st k73
 replace e2 := e2.st k73
 replace e3 := e3.st k73
 replace rp20 := rp20.st k73
 replace rp22 := rp22.st k73
 replace kk := kk.trans k73
 replace kS6 := kS6.trans k73
 refine ⟨fun _ => ⟨_, s.pick [2, 3, 4, 5, 6, 7, 8, 9, 10, 11] 12 rfl, kS6⟩, RD.fold ?_⟩
 refine RD.segM hT ht6 (by kernel_rfl) [5] [] [] [.agg #[.bool p0.Leaf, .slice none 0 0, .slice none 0 0, .slice A44 x34.length u44]] [] (by kernel_rfl) (fun _ _ => trivial) ⟨_, s.pick [2, 3, 4, 5, 6, 7, 8, 9, 10, 11] 12 rfl, kS6⟩ ?_
 refine RD.op (i := 7) rfl (by kernel_rfl) (by kernel_rfl) (OK.store hT (i := 1) (b := b22) (off := 0) (n := 4) (vs := [.bool p0.Leaf, .slice none 0 0, .slice none 0 0, .slice A44 x34.length u44]) (cs := [.bool false, .slice none 0 0, .slice none 0 0, .slice none 0 0]) (e := 26) s (by kernel_rfl) rfl rfl (flat_ok rfl) (Nat.le_of_ble_eq_true rfl) ?_)
 clear s
 rintro w74 s k76 -
 replace e5 := e5.st k76
 replace e6 := e6.st k76
 replace e7 := e7.st k76
 replace e1 := e1.st k76
 replace e2 := e2.st k76
 replace e3 := e3.st k76
 replace rp28 := rp28.st k76
 replace rp20 := rp20.st k76
 replace rp22 := rp22.st k76
 replace kk := kk.trans k76
 replace kS6 := kS6.trans k76
 refine ⟨fun _ => ⟨_, s.pick [2, 3, 4, 5, 6, 7, 8, 9, 10, 11] 12 rfl, kS6⟩, RD.fold ?_⟩
 refine RD.done (by kernel_rfl) ?_
 replace s := s.pick [1, 0, 2, 3, 4, 5, 6, 9] 12 rfl
 exact fun X h => kc (by kernel_rfl) rfl (h I22 x34 b22 A44 u44 cl27 _ hf s kk rp28 rp20 rp22)
 have e4S7 := e4
 have e5S7 := e5
 have e6S7 := e6
 have e7S7 := e7
 have e1S7 := e1
 have e2S7 := e2
 have e3S7 := e3
 have kS7 : Kp I19 w46 I19 w46 := Kp.refl
 refine WPK.drawM (fun w' => ∃ I' : Nat → Prop, St w1 M I' ((.blk b3 (.cells #[.bool false, .slice none 0 0, .slice none 0 0, .slice none 0 0] 26 (0, 0))) :: (.blk b2 (.cells #[.bool p2.Leaf, .slice A5 p2.Pairs.length u5, .slice A6 p2.Keys.length u6, .slice A7 p2.Kids.length u7] 26 (0, 0))) :: (.blk b1 (.cells #[.bool p0.Leaf, .slice A1 p0.Pairs.length u1, .slice A2 p0.Keys.length u2, .slice A3 p0.Kids.length u3] 26 (0, 0))) :: F) w' ∧ Kp I19 w46 I' w') 13 [0, 1, 0, 4, 15, 0, 32, 127, 0, 256, 1023, 2047, 4095] (by kernel_rfl) (by kernel_rfl) ?_
 intro ht7 w75 hd7
 have k77 := Kp.dr s hd7
 replace s := s.dr hd7
 replace e4 := e4.st k77
 replace e5 := e5.st k77
 replace e6 := e6.st k77
 replace e7 := e7.st k77
 replace e1 := e1.st k77
 replace e2 := e2.st k77
 replace e3 := e3.st k77
 replace kk := kk.trans k77
 replace kS7 := kS7.trans k77
 refine RD.segM hT ht7 (by kernel_rfl) [0, 2, 3, 5, 8, 9] [.slice A2 p0.Keys.length u2, .slice A6 p2.Keys.length u6] [] [.pointer (some ⟨b4, 2, none⟩), .pointer (some ⟨b1, 2, none⟩), .slice A2 p0.Keys.length u2, .slice A4 p1.length u4, .pointer (some ⟨b2, 2, none⟩), .slice A6 p2.Keys.length u6] [.cell ⟨b1, 2, none⟩ (.slice A2 p0.Keys.length u2), .cell ⟨b2, 2, none⟩ (.slice A6 p2.Keys.length u6)] (by kernel_rfl) (by rintro w' ⟨I', s, k⟩; have e4 := e4S7.st k; have e5 := e5S7.st k; have e6 := e6S7.st k; have e7 := e7S7.st k; have e1 := e1S7.st k; have e2 := e2S7.st k; have e3 := e3S7.st k; exact ⟨s.cell (i := 2) (off := 2) rfl rfl, s.cell (i := 1) (off := 2) rfl rfl⟩) ⟨_, s.pick [1, 2, 3] 4 rfl, kS7⟩ ?_
 refine RD.ways [1, 6] (by kernel_rfl) (List.forall_mem_cons.2 ⟨?_, List.forall_mem_cons.2 ⟨?_, fun _ h => nomatch h⟩⟩)
 refine RWay.op rfl (by kernel_rfl) (OK.pure hT (ld := (.slice none 0 0)) (v := .slice none 0 0) (c := .cell ⟨b4, 2, none⟩ (.slice none 0 0)) (by kernel_rfl) (s.cell (i := 0) (off := 2) rfl rfl) ?_)
 refine ⟨fun _ => ⟨_, s.pick [1, 2, 3] 4 rfl, kS7⟩, RD.fold ?_⟩
 obtain ⟨x35, hx23, hf⟩ := bindS hf
 refine RD.ways [4, 6] (by kernel_rfl) (List.forall_mem_cons.2 ⟨?_, List.forall_mem_cons.2 ⟨?_, fun _ h => nomatch h⟩⟩)
 replace s := s.pushNil 27 1
 obtain ⟨nw6, hs11, rq11⟩ := Elems.src e2
 refine RWay.op rfl (by kernel_rfl) (OK.app hT (r := (Rp.slice (Rp.int .u8))) (i := 0) (t := 23) (e := 27) (size := 1) (bytes := 24) (c := 0) (n := 0) (m := p0.Keys.length) s (by kernel_rfl) rfl rfl rfl rfl rfl (by decide) rfl rfl rfl rfl (RepL.nil (r := (Rp.slice (Rp.int .u8)))) hs11 rq11 flat_slice rfl hx23 ?_)
 clear s
 rintro A45 u45 cl28 w76 s k78 rp29
 replace e4 := e4.st k78
 replace e2 := e2.st k78
 replace e6 := e6.st k78
 replace e5 := e5.st k78
 replace e7 := e7.st k78
 replace e1 := e1.st k78
 replace e3 := e3.st k78
 replace kk := kk.trans k78
 replace kS7 := kS7.trans k78
 refine ⟨fun _ => ⟨_, s.pick [2, 3, 4] 5 rfl, kS7⟩, RD.fold ?_⟩
 refine RD.op (i := 6) rfl (by kernel_rfl) (by kernel_rfl) (OK.new hT (f := fun b => .slice (some ⟨b, 0, none⟩) 1 1) (cs := [.slice A4 p1.length u4]) (e := 27) (c := .tt) s (by kernel_rfl) trivial ?_)
 clear s
 rintro w77 b23 s k79 -
 replace e4 := e4.st k79
 replace e2 := e2.st k79
 replace e6 := e6.st k79
 replace e5 := e5.st k79
 replace e7 := e7.st k79
 replace e1 := e1.st k79
 replace e3 := e3.st k79
 replace rp29 := rp29.st k79
 replace kk := kk.trans k79
 replace kS7 := kS7.trans k79
 have rp30 : RepL (Rp.slice (Rp.int .u8)) I19 w77 [.slice A4 p1.length u4] ([p1] : List (List Int)) := RepL.cons (c := [.slice A4 p1.length u4]) (d := []) (⟨_, _, rfl, hc4.1, hc4.2, e4⟩) (RepL.nil)
 replace s : St w1 M I19 ((.sl (.slice (some ⟨b23, 0, none⟩) 1 1) 27 1 1 [.slice A4 p1.length u4]) :: (.sl (.slice A45 x35.length u45) 27 1 x35.length cl28) :: (.blk b4 (.cells #[.bool p0.Leaf, .slice none 0 0, .slice none 0 0, .slice none 0 0] 26 (0, 0))) :: (.blk b3 (.cells #[.bool false, .slice none 0 0, .slice none 0 0, .slice none 0 0] 26 (0, 0))) :: (.blk b2 (.cells #[.bool p2.Leaf, .slice A5 p2.Pairs.length u5, .slice A6 p2.Keys.length u6, .slice A7 p2.Kids.length u7] 26 (0, 0))) :: (.blk b1 (.cells #[.bool p0.Leaf, .slice A1 p0.Pairs.length u1, .slice A2 p0.Keys.length u2, .slice A3 p0.Kids.length u3] 26 (0, 0))) :: F) w77 := s.blkSl (i := 0) (n := 1) (c := 1) (size := 1) rfl rfl (Nat.le_refl _) (by decide)
 refine ⟨fun _ => ⟨_, s.pick [3, 4, 5] 6 rfl, kS7⟩, RD.fold ?_⟩
 have hs12 := St.src s (i := 0) rfl rfl rp30
 have rq12 := rp30
 obtain ⟨x36, hx24, hf⟩ := bindS hf
 refine RD.op (i := 7) rfl (by kernel_rfl) (by kernel_rfl) (OK.app hT (r := (Rp.slice (Rp.int .u8))) (i := 1) (t := 23) (e := 27) (size := 1) (bytes := 24) (c := u45) (n := x35.length) (m := 1) s (by kernel_rfl) rfl rfl rfl rfl rfl (by decide) rfl rfl rfl rfl rp29 hs12 rq12 flat_slice rfl hx24 ?_)
 clear s
 rintro A46 u46 cl29 w78 s k80 rp31
 replace e4 := e4.st k80
 replace e2 := e2.st k80
 replace e6 := e6.st k80
 replace e5 := e5.st k80
 replace e7 := e7.st k80
 replace e1 := e1.st k80
 replace e3 := e3.st k80
 replace rp30 := rp30.st k80
 replace rp29 := rp29.st k80
 replace kk := kk.trans k80
 replace kS7 := kS7.trans k80
 refine ⟨fun _ => ⟨_, s.pick [3, 4, 5] 6 rfl, kS7⟩, RD.fold ?_⟩
 obtain ⟨nw7, hs13, rq13⟩ := Elems.src e6
 obtain ⟨x37, hx25, hf⟩ := bindS hf
 refine RD.op (i := 10) rfl (by kernel_rfl) (by kernel_rfl) (OK.app hT (r := (Rp.slice (Rp.int .u8))) (i := 1) (t := 23) (e := 27) (size := 1) (bytes := 24) (c := u46) (n := x36.length) (m := p2.Keys.length) s (by kernel_rfl) rfl rfl rfl rfl rfl (by decide) rfl rfl rfl rfl rp31 hs13 rq13 flat_slice rfl hx25 ?_)
 clear s
 rintro A47 u47 cl30 w79 s k81 rp32
 replace e4 := e4.st k81
 replace e2 := e2.st k81
 replace e6 := e6.st k81
 replace e5 := e5.st k81
 replace e7 := e7.st k81
 replace e1 := e1.st k81
 replace e3 := e3.st k81
 replace rp30 := rp30.st k81
 replace rp31 := rp31.st k81
 replace kk := kk.trans k81
 replace kS7 := kS7.trans k81
 refine ⟨fun _ => ⟨_, s.pick [3, 4, 5] 6 rfl, kS7⟩, RD.fold ?_⟩
 refine RD.segM hT ht7 (by kernel_rfl) [11] [] [] [.pointer (some ⟨b4, 2, none⟩)] [] (by kernel_rfl) (fun _ _ => trivial) ⟨_, s.pick [3, 4, 5] 6 rfl, kS7⟩ ?_
 refine RD.op (i := 12) rfl (by kernel_rfl) (by kernel_rfl) (OK.store hT (i := 2) (b := b4) (off := 2) (n := 1) (vs := [.slice A47 x37.length u47]) (cs := [.bool p0.Leaf, .slice none 0 0, .slice none 0 0, .slice none 0 0]) (e := 26) s (by kernel_rfl) rfl rfl (flat_ok rfl) (Nat.le_of_ble_eq_true rfl) ?_)
 clear s
 rintro w80 s k82 -
 replace e4 := e4.st k82
 replace e2 := e2.st k82
 replace e6 := e6.st k82
 replace e5 := e5.st k82
 replace e7 := e7.st k82
 replace e1 := e1.st k82
 replace e3 := e3.st k82
 replace rp30 := rp30.st k82
 replace rp32 := rp32.st k82
 replace kk := kk.trans k82
 replace kS7 := kS7.trans k82
 refine ⟨fun _ => ⟨_, s.pick [3, 4, 5] 6 rfl, kS7⟩, RD.fold ?_⟩
 refine RD.done (by kernel_rfl) ?_
 replace s := s.pick [1, 2, 3, 4, 5] 6 rfl
 exact fun X h => kc (by kernel_rfl) rfl (h I19 x37 A47 u47 cl30 _ hf s kk rp32 e5 e6 e7 e1 e2 e3)
 refine RWay.op rfl (by kernel_rfl) (OK.new hT (f := fun b => .slice (some ⟨b, 0, none⟩) 1 1) (cs := [.slice A4 p1.length u4]) (e := 27) (c := .tt) s (by kernel_rfl) trivial ?_)
 clear s
 rintro w77 b23 s k79 -
 replace e4 := e4.st k79
 replace e2 := e2.st k79
 replace e6 := e6.st k79
 replace e5 := e5.st k79
 replace e7 := e7.st k79
 replace e1 := e1.st k79
 replace e3 := e3.st k79
 replace kk := kk.trans k79
 replace kS7 := kS7.trans k79
 have rp30 : RepL (Rp.slice (Rp.int .u8)) I19 w77 [.slice A4 p1.length u4] ([p1] : List (List Int)) := RepL.cons (c := [.slice A4 p1.length u4]) (d := []) (⟨_, _, rfl, hc4.1, hc4.2, e4⟩) (RepL.nil)
 replace s : St w1 M I19 ((.sl (.slice (some ⟨b23, 0, none⟩) 1 1) 27 1 1 [.slice A4 p1.length u4]) :: (.blk b4 (.cells #[.bool p0.Leaf, .slice none 0 0, .slice none 0 0, .slice none 0 0] 26 (0, 0))) :: (.blk b3 (.cells #[.bool false, .slice none 0 0, .slice none 0 0, .slice none 0 0] 26 (0, 0))) :: (.blk b2 (.cells #[.bool p2.Leaf, .slice A5 p2.Pairs.length u5, .slice A6 p2.Keys.length u6, .slice A7 p2.Kids.length u7] 26 (0, 0))) :: (.blk b1 (.cells #[.bool p0.Leaf, .slice A1 p0.Pairs.length u1, .slice A2 p0.Keys.length u2, .slice A3 p0.Kids.length u3] 26 (0, 0))) :: F) w77 := s.blkSl (i := 0) (n := 1) (c := 1) (size := 1) rfl rfl (Nat.le_refl _) (by decide)
 refine ⟨fun _ => ⟨_, s.pick [2, 3, 4] 5 rfl, kS7⟩, RD.fold ?_⟩
 replace s := s.pushNil 27 1
 obtain ⟨nw6, hs11, rq11⟩ := Elems.src e2
 refine RD.op (i := 4) rfl (by kernel_rfl) (by kernel_rfl) (OK.app hT (r := (Rp.slice (Rp.int .u8))) (i := 0) (t := 23) (e := 27) (size := 1) (bytes := 24) (c := 0) (n := 0) (m := p0.Keys.length) s (by kernel_rfl) rfl rfl rfl rfl rfl (by decide) rfl rfl rfl rfl (RepL.nil (r := (Rp.slice (Rp.int .u8)))) hs11 rq11 flat_slice rfl hx23 ?_)
 clear s
 rintro A45 u45 cl28 w76 s k78 rp29
 replace e4 := e4.st k78
 replace e2 := e2.st k78
 replace e6 := e6.st k78
 replace e5 := e5.st k78
 replace e7 := e7.st k78
 replace e1 := e1.st k78
 replace e3 := e3.st k78
 replace rp30 := rp30.st k78
 replace kk := kk.trans k78
 replace kS7 := kS7.trans k78
 refine ⟨fun _ => ⟨_, s.pick [3, 4, 5] 6 rfl, kS7⟩, RD.fold ?_⟩
 have hs14 := St.src s (i := 1) rfl rfl rp30
 have rq14 := rp30
 obtain ⟨x38, hx26, hf⟩ := bindS hf
 refine RD.op (i := 7) rfl (by kernel_rfl) (by kernel_rfl) (OK.app hT (r := (Rp.slice (Rp.int .u8))) (i := 0) (t := 23) (e := 27) (size := 1) (bytes := 24) (c := u45) (n := x35.length) (m := 1) s (by kernel_rfl) rfl rfl rfl rfl rfl (by decide) rfl rfl rfl rfl rp29 hs14 rq14 flat_slice rfl hx26 ?_)
 clear s
 rintro A48 u48 cl31 w81 s k83 rp33
 replace e4 := e4.st k83
 replace e2 := e2.st k83
 replace e6 := e6.st k83
 replace e5 := e5.st k83
 replace e7 := e7.st k83
 replace e1 := e1.st k83
 replace e3 := e3.st k83
 replace rp29 := rp29.st k83
 replace rp30 := rp30.st k83
 replace kk := kk.trans k83
 replace kS7 := kS7.trans k83
 refine ⟨fun _ => ⟨_, s.pick [3, 4, 5] 6 rfl, kS7⟩, RD.fold ?_⟩
 obtain ⟨nw8, hs15, rq15⟩ := Elems.src e6
 obtain ⟨x39, hx27, hf⟩ := bindS hf
 refine RD.op (i := 10) rfl (by kernel_rfl) (by kernel_rfl) (OK.app hT (r := (Rp.slice (Rp.int .u8))) (i := 0) (t := 23) (e := 27) (size := 1) (bytes := 24) (c := u48) (n := x38.length) (m := p2.Keys.length) s (by kernel_rfl) rfl rfl rfl rfl rfl (by decide) rfl rfl rfl rfl rp33 hs15 rq15 flat_slice rfl hx27 ?_)
 clear s
 rintro A49 u49 cl32 w82 s k84 rp34
 replace e4 := e4.st k84
 replace e2 := e2.st k84
 replace e6 := e6.st k84
 replace e5 := e5.st k84
 replace e7 := e7.st k84
 replace e1 := e1.st k84
 replace e3 := e3.st k84
 replace rp33 := rp33.st k84
 replace rp30 := rp30.st k84
 replace kk := kk.trans k84
 replace kS7 := kS7.trans k84
 refine ⟨fun _ => ⟨_, s.pick [3, 4, 5] 6 rfl, kS7⟩, RD.fold ?_⟩
 refine RD.segM hT ht7 (by kernel_rfl) [11] [] [] [.pointer (some ⟨b4, 2, none⟩)] [] (by kernel_rfl) (fun _ _ => trivial) ⟨_, s.pick [3, 4, 5] 6 rfl, kS7⟩ ?_
 refine RD.op (i := 12) rfl (by kernel_rfl) (by kernel_rfl) (OK.store hT (i := 2) (b := b4) (off := 2) (n := 1) (vs := [.slice A49 x39.length u49]) (cs := [.bool p0.Leaf, .slice none 0 0, .slice none 0 0, .slice none 0 0]) (e := 26) s (by kernel_rfl) rfl rfl (flat_ok rfl) (Nat.le_of_ble_eq_true rfl) ?_)
 clear s
 rintro w83 s k85 -
 replace e4 := e4.st k85
 replace e2 := e2.st k85
 replace e6 := e6.st k85
 replace e5 := e5.st k85
 replace e7 := e7.st k85
 replace e1 := e1.st k85
 replace e3 := e3.st k85
 replace rp34 := rp34.st k85
 replace rp30 := rp30.st k85
 replace kk := kk.trans k85
 replace kS7 := kS7.trans k85
 refine ⟨fun _ => ⟨_, s.pick [3, 4, 5] 6 rfl, kS7⟩, RD.fold ?_⟩
 refine RD.done (by kernel_rfl) ?_
 replace s := s.pick [0, 2, 3, 4, 5] 6 rfl
 exact fun X h => kc (by kernel_rfl) rfl (h I19 x39 A49 u49 cl32 _ hf s kk rp34 e5 e6 e7 e1 e2 e3)
 refine RWay.op rfl (by kernel_rfl) (OK.new hT (f := fun b => .slice (some ⟨b, 0, none⟩) 1 1) (cs := [.slice A4 p1.length u4]) (e := 27) (c := .tt) s (by kernel_rfl) trivial ?_)
 clear s
 rintro w77 b23 s k79 -
 replace e4 := e4.st k79
 replace e2 := e2.st k79
 replace e6 := e6.st k79
 replace e5 := e5.st k79
 replace e7 := e7.st k79
 replace e1 := e1.st k79
 replace e3 := e3.st k79
 replace kk := kk.trans k79
 replace kS7 := kS7.trans k79
 have rp30 : RepL (Rp.slice (Rp.int .u8)) I19 w77 [.slice A4 p1.length u4] ([p1] : List (List Int)) := RepL.cons (c := [.slice A4 p1.length u4]) (d := []) (⟨_, _, rfl, hc4.1, hc4.2, e4⟩) (RepL.nil)
 replace s : St w1 M I19 ((.sl (.slice (some ⟨b23, 0, none⟩) 1 1) 27 1 1 [.slice A4 p1.length u4]) :: (.blk b4 (.cells #[.bool p0.Leaf, .slice none 0 0, .slice none 0 0, .slice none 0 0] 26 (0, 0))) :: (.blk b3 (.cells #[.bool false, .slice none 0 0, .slice none 0 0, .slice none 0 0] 26 (0, 0))) :: (.blk b2 (.cells #[.bool p2.Leaf, .slice A5 p2.Pairs.length u5, .slice A6 p2.Keys.length u6, .slice A7 p2.Kids.length u7] 26 (0, 0))) :: (.blk b1 (.cells #[.bool p0.Leaf, .slice A1 p0.Pairs.length u1, .slice A2 p0.Keys.length u2, .slice A3 p0.Kids.length u3] 26 (0, 0))) :: F) w77 := s.blkSl (i := 0) (n := 1) (c := 1) (size := 1) rfl rfl (Nat.le_refl _) (by decide)
 refine ⟨fun _ => ⟨_, s.pick [2, 3, 4] 5 rfl, kS7⟩, RD.fold ?_⟩
 refine RD.op (i := 1) rfl (by kernel_rfl) (by kernel_rfl) (OK.pure hT (ld := (.slice none 0 0)) (v := .slice none 0 0) (c := .cell ⟨b4, 2, none⟩ (.slice none 0 0)) (by kernel_rfl) (s.cell (i := 1) (off := 2) rfl rfl) ?_)
 refine ⟨fun _ => ⟨_, s.pick [2, 3, 4] 5 rfl, kS7⟩, RD.fold ?_⟩
 replace s := s.pushNil 27 1
 obtain ⟨nw9, hs16, rq16⟩ := Elems.src e2
 obtain ⟨x40, hx28, hf⟩ := bindS hf
 refine RD.op (i := 4) rfl (by kernel_rfl) (by kernel_rfl) (OK.app hT (r := (Rp.slice (Rp.int .u8))) (i := 0) (t := 23) (e := 27) (size := 1) (bytes := 24) (c := 0) (n := 0) (m := p0.Keys.length) s (by kernel_rfl) rfl rfl rfl rfl rfl (by decide) rfl rfl rfl rfl (RepL.nil (r := (Rp.slice (Rp.int .u8)))) hs16 rq16 flat_slice rfl hx28 ?_)
 clear s
 rintro A50 u50 cl33 w84 s k86 rp35
 replace e4 := e4.st k86
 replace e2 := e2.st k86
 replace e6 := e6.st k86
 replace e5 := e5.st k86
 replace e7 := e7.st k86
 replace e1 := e1.st k86
 replace e3 := e3.st k86
 replace rp30 := rp30.st k86
 replace kk := kk.trans k86
 replace kS7 := kS7.trans k86
 refine ⟨fun _ => ⟨_, s.pick [3, 4, 5] 6 rfl, kS7⟩, RD.fold ?_⟩
 have hs17 := St.src s (i := 1) rfl rfl rp30
 have rq17 := rp30
 obtain ⟨x41, hx29, hf⟩ := bindS hf
 refine RD.op (i := 7) rfl (by kernel_rfl) (by kernel_rfl) (OK.app hT (r := (Rp.slice (Rp.int .u8))) (i := 0) (t := 23) (e := 27) (size := 1) (bytes := 24) (c := u50) (n := x40.length) (m := 1) s (by kernel_rfl) rfl rfl rfl rfl rfl (by decide) rfl rfl rfl rfl rp35 hs17 rq17 flat_slice rfl hx29 ?_)
 clear s
 rintro A51 u51 cl34 w85 s k87 rp36
 replace e4 := e4.st k87
 replace e2 := e2.st k87
 replace e6 := e6.st k87
 replace e5 := e5.st k87
 replace e7 := e7.st k87
 replace e1 := e1.st k87
 replace e3 := e3.st k87
 replace rp35 := rp35.st k87
 replace rp30 := rp30.st k87
 replace kk := kk.trans k87
 replace kS7 := kS7.trans k87
 refine ⟨fun _ => ⟨_, s.pick [3, 4, 5] 6 rfl, kS7⟩, RD.fold ?_⟩
 obtain ⟨nw10, hs18, rq18⟩ := Elems.src e6
 obtain ⟨x42, hx30, hf⟩ := bindS hf
 refine RD.op (i := 10) rfl (by kernel_rfl) (by kernel_rfl) (OK.app hT (r := (Rp.slice (Rp.int .u8))) (i := 0) (t := 23) (e := 27) (size := 1) (bytes := 24) (c := u51) (n := x41.length) (m := p2.Keys.length) s (by kernel_rfl) rfl rfl rfl rfl rfl (by decide) rfl rfl rfl rfl rp36 hs18 rq18 flat_slice rfl hx30 ?_)
 clear s
 rintro A52 u52 cl35 w86 s k88 rp37
 replace e4 := e4.st k88
 replace e2 := e2.st k88
 replace e6 := e6.st k88
 replace e5 := e5.st k88
 replace e7 := e7.st k88
 replace e1 := e1.st k88
 replace e3 := e3.st k88
 replace rp36 := rp36.st k88
 replace rp30 := rp30.st k88
 replace kk := kk.trans k88
 replace kS7 := kS7.trans k88
 refine ⟨fun _ => ⟨_, s.pick [3, 4, 5] 6 rfl, kS7⟩, RD.fold ?_⟩
 refine RD.segM hT ht7 (by kernel_rfl) [11] [] [] [.pointer (some ⟨b4, 2, none⟩)] [] (by kernel_rfl) (fun _ _ => trivial) ⟨_, s.pick [3, 4, 5] 6 rfl, kS7⟩ ?_
 refine RD.op (i := 12) rfl (by kernel_rfl) (by kernel_rfl) (OK.store hT (i := 2) (b := b4) (off := 2) (n := 1) (vs := [.slice A52 x42.length u52]) (cs := [.bool p0.Leaf, .slice none 0 0, .slice none 0 0, .slice none 0 0]) (e := 26) s (by kernel_rfl) rfl rfl (flat_ok rfl) (Nat.le_of_ble_eq_true rfl) ?_)
 clear s
 rintro w87 s k89 -
 replace e4 := e4.st k89
 replace e2 := e2.st k89
 replace e6 := e6.st k89
 replace e5 := e5.st k89
 replace e7 := e7.st k89
 replace e1 := e1.st k89
 replace e3 := e3.st k89
 replace rp37 := rp37.st k89
 replace rp30 := rp30.st k89
 replace kk := kk.trans k89
 replace kS7 := kS7.trans k89
 refine ⟨fun _ => ⟨_, s.pick [3, 4, 5] 6 rfl, kS7⟩, RD.fold ?_⟩
 refine RD.done (by kernel_rfl) ?_
 replace s := s.pick [0, 2, 3, 4, 5] 6 rfl
 exact fun X h => kc (by kernel_rfl) rfl (h I19 x42 A52 u52 cl35 _ hf s kk rp37 e5 e6 e7 e1 e2 e3)
 refine WPK.region ?_
 refine RW.seg hT 1 [.agg #[.bool p0.Leaf, .slice A1 p0.Pairs.length u1, .slice A2 p0.Keys.length u2, .slice A3 p0.Kids.length u3]] [] [.agg #[.bool p0.Leaf, .slice A1 p0.Pairs.length u1, .slice A2 p0.Keys.length u2, .slice A3 p0.Kids.length u3]] [.cells ⟨b1, 0, none⟩ [.bool p0.Leaf, .slice A1 p0.Pairs.length u1, .slice A2 p0.Keys.length u2, .slice A3 p0.Kids.length u3] 4] (by kernel_rfl) (s.cells (i := 2) rfl rfl rfl) ?_
 obtain ⟨x43, hx31, hf⟩ := bindS hf
 refine RW.op (by kernel_rfl) (OK.call' en18 (by kernel_rfl) (c18 (F := (.blk b3 (.cells #[.bool false, .slice none 0 0, .slice none 0 0, .slice none 0 0] 26 (0, 0))) :: (.blk b2 (.cells #[.bool p2.Leaf, .slice A5 p2.Pairs.length u5, .slice A6 p2.Keys.length u6, .slice A7 p2.Kids.length u7] 26 (0, 0))) :: (.blk b1 (.cells #[.bool p0.Leaf, .slice A1 p0.Pairs.length u1, .slice A2 p0.Keys.length u2, .slice A3 p0.Kids.length u3] 26 (0, 0))) :: F) p0 A1 u1 A2 u2 A3 u3 hc1 e1 hc2 e2 hc3 e3 s hx31) ?_)
 intro X19 hX19
 refine fun _ _ hJ => hJ X19 ?_
 clear s
 intro I27 w88 s k90
 refine hX19 _ _ ?_
 replace e1 := e1.st k90
 replace e2 := e2.st k90
 replace e3 := e3.st k90
 replace e4 := e4.st k90
 replace e5 := e5.st k90
 replace e6 := e6.st k90
 replace e7 := e7.st k90
 replace kk := kk.trans k90
 refine RW.seg hT 1 [] [(11, .bool (decide (¬ (x43 = true))))] [.bool (decide (¬ (x43 = true)))] [.veq (.bool (!x43)) (.bool (decide (¬ (x43 = true))))] (by kernel_rfl) (not_b) ?_
 by_cases h11 : ¬ (x43 = true)
 have hf := iteT h11 hf
 refine RW.seg hT 12 [] [(12, .bool true)] [.bool true, undef, undef, undef, .bool true, .bool true, undef, undef, undef, undef, undef, .bool true] [.veq (.bool (decide (¬ (x43 = true)))) (.bool true)] (by kernel_rfl) (bo_t h11) ?_
 refine RW.nil ?_
 exact fun X h => kc (by kernel_rfl) rfl (h I27 true _ hf s kk e4 e5 e6 e7 e1 e2 e3)
 have hf := iteF h11 hf
 refine RW.seg hT 2 [.agg #[.bool p2.Leaf, .slice A5 p2.Pairs.length u5, .slice A6 p2.Keys.length u6, .slice A7 p2.Kids.length u7]] [(12, .bool false)] [.bool false, .agg #[.bool p2.Leaf, .slice A5 p2.Pairs.length u5, .slice A6 p2.Keys.length u6, .slice A7 p2.Kids.length u7]] [.veq (.bool (decide (¬ (x43 = true)))) (.bool false), .cells ⟨b2, 0, none⟩ [.bool p2.Leaf, .slice A5 p2.Pairs.length u5, .slice A6 p2.Keys.length u6, .slice A7 p2.Kids.length u7] 4] (by kernel_rfl) (⟨bo_f h11, s.cells (i := 1) rfl rfl rfl⟩) ?_
 obtain ⟨x44, hx32, hf⟩ := bindS hf
 refine RW.op (by kernel_rfl) (OK.call' en18 (by kernel_rfl) (c18 (F := (.blk b3 (.cells #[.bool false, .slice none 0 0, .slice none 0 0, .slice none 0 0] 26 (0, 0))) :: (.blk b2 (.cells #[.bool p2.Leaf, .slice A5 p2.Pairs.length u5, .slice A6 p2.Keys.length u6, .slice A7 p2.Kids.length u7] 26 (0, 0))) :: (.blk b1 (.cells #[.bool p0.Leaf, .slice A1 p0.Pairs.length u1, .slice A2 p0.Keys.length u2, .slice A3 p0.Kids.length u3] 26 (0, 0))) :: F) p2 A5 u5 A6 u6 A7 u7 hc5 e5 hc6 e6 hc7 e7 s hx32) ?_)
 intro X20 hX20
 refine fun _ _ hJ => hJ X20 ?_
 clear s
 intro I28 w89 s k91
 refine hX20 _ _ ?_
 replace e1 := e1.st k91
 replace e2 := e2.st k91
 replace e3 := e3.st k91
 replace e4 := e4.st k91
 replace e5 := e5.st k91
 replace e6 := e6.st k91
 replace e7 := e7.st k91
 replace kk := kk.trans k91
 refine RW.seg hT 2 [] [(15, .bool (decide (¬ (x44 = true))))] [.bool (decide (¬ (x44 = true))), .bool (decide (¬ (x44 = true)))] [.veq (.bool (!x44)) (.bool (decide (¬ (x44 = true))))] (by kernel_rfl) (not_b) ?_
 by_cases h12 : ¬ (x44 = true)
 have hf := iteT h12 hf
 refine RW.seg hT 7 [] [(17, .bool true)] [.bool true, undef, undef, undef, undef, undef, .bool true] [.veq (.bool (decide (¬ (x44 = true)))) (.bool true)] (by kernel_rfl) (bo_t h12) ?_
 refine RW.nil ?_
 exact fun X h => kc (by kernel_rfl) rfl (h I28 true _ hf s kk e4 e5 e6 e7 e1 e2 e3)
 have hf := iteF h12 hf
 refine RW.seg hT 7 [.bool p0.Leaf, .bool p2.Leaf] [(17, .bool false), (22, .bool (decide (p0.Leaf ≠ p2.Leaf)))] [.bool false, .pointer (some ⟨b1, 0, none⟩), .bool p0.Leaf, .pointer (some ⟨b2, 0, none⟩), .bool p2.Leaf, .bool (decide (p0.Leaf ≠ p2.Leaf)), .bool (decide (p0.Leaf ≠ p2.Leaf))] [.veq (.bool (decide (¬ (x44 = true)))) (.bool false), .cell ⟨b1, 0, none⟩ (.bool p0.Leaf), .cell ⟨b2, 0, none⟩ (.bool p2.Leaf), .veq (.bool (!(p0.Leaf == p2.Leaf))) (.bool (decide (p0.Leaf ≠ p2.Leaf)))] (by kernel_rfl) (⟨bo_f h12, s.cell (i := 2) (off := 0) rfl rfl, s.cell (i := 1) (off := 0) rfl rfl, bne_v⟩) ?_
 refine RW.nil ?_
 exact fun X h => kc (by kernel_rfl) rfl (h I28 (decide (p0.Leaf ≠ p2.Leaf)) _ hf s kk e4 e5 e6 e7 e1 e2 e3)
end Go.Proofs.Ytefjbhogpgihaaa
