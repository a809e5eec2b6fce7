/- PRINTED BY sy.py: each call computes what the plain function of its number tells. -/
import Derived.Test.YtefjbhogpgihaaaW5
namespace Go.Proofs.Ytefjbhogpgihaaa
open Go Go.SX Go.RowKit
set_option maxRecDepth 100000
set_option linter.unusedVariables false
attribute [local irreducible] WPK RW RD Ret SX.Fin SX.Any opK RoundBeg RoundEnd RangeEnd Rounds
theorem c37 {w1 w : World} {M I : Nat → Prop} {F : List It} (p0 : T_api_Node) (p1 : (List Int)) (p2 : T_api_Node) (A1 : Option Addr) (u1 : Nat) (A2 : Option Addr) (u2 : Nat) (A3 : Option Addr) (u3 : Nat) (A4 : Option Addr) (u4 : Nat) (A5 : Option Addr) (u5 : Nat) (A6 : Option Addr) (u6 : Nat) (A7 : Option Addr) (u7 : Nat) (hc1 : (p0.Pairs.length ≤ u1 ∧ u1 ≤ 9223372036854775807)) (e1 : Elems rp_T_api_Pair I w A1 p0.Pairs) (hc2 : (p0.Keys.length ≤ u2 ∧ u2 ≤ 9223372036854775807)) (e2 : Elems (Rp.slice (Rp.int .u8)) I w A2 p0.Keys) (hc3 : (p0.Kids.length ≤ u3 ∧ u3 ≤ 9223372036854775807)) (e3 : Elems (Rp.int .i64) I w A3 p0.Kids) (hc4 : (p1.length ≤ u4 ∧ u4 ≤ 9223372036854775807)) (e4 : Elems (Rp.int .u8) I w A4 p1) (hc5 : (p2.Pairs.length ≤ u5 ∧ u5 ≤ 9223372036854775807)) (e5 : Elems rp_T_api_Pair I w A5 p2.Pairs) (hc6 : (p2.Keys.length ≤ u6 ∧ u6 ≤ 9223372036854775807)) (e6 : Elems (Rp.slice (Rp.int .u8)) I w A6 p2.Keys) (hc7 : (p2.Kids.length ≤ u7 ∧ u7 ≤ 9223372036854775807)) (e7 : Elems (Rp.int .i64) I w A7 p2.Kids) (s : St w1 M I (F) w) {r : (T_api_Node × Int)} (hf : g37 p0 p1 p2 = some r) :
   Ret Try.prog 37 [.agg #[.bool p0.Leaf, .slice A1 p0.Pairs.length u1, .slice A2 p0.Keys.length u2, .slice A3 p0.Kids.length u3], .slice A4 p1.length u4, .agg #[.bool p2.Leaf, .slice A5 p2.Pairs.length u5, .slice A6 p2.Keys.length u6, .slice A7 p2.Kids.length u7]] w fun v wz => ∀ X : Value → World → Prop, (∀ (I' : Nat → Prop) (A8 : Option Addr) (n1 : Nat) (u8 : Nat) (cl1 : List Value) (A9 : Option Addr) (n2 : Nat) (u9 : Nat) (cl2 : List Value) (A10 : Option Addr) (n3 : Nat) (u10 : Nat) (cl3 : List Value) (w' : World), St w1 M I' ((.sl (.slice A8 n1 u8) 48 2 n1 cl1) :: (.sl (.slice A9 n2 u9) 27 1 n2 cl2) :: (.sl (.slice A10 n3 u10) 3 1 n3 cl3) :: F) w' → Kp I w I' w' → n1 = r.1.Pairs.length → RepL rp_T_api_Pair I' w' cl1 r.1.Pairs → n2 = r.1.Keys.length → RepL (Rp.slice (Rp.int .u8)) I' w' cl2 r.1.Keys → n3 = r.1.Kids.length → RepL (Rp.int .i64) I' w' cl3 r.1.Kids → X (.tuple #[.agg #[.bool r.1.Leaf, .slice A8 n1 u8, .slice A9 n2 u9, .slice A10 n3 u10], .int .i64 r.2]) w') → X v wz := by
 have kk : Kp I w I w := Kp.refl
 unfold g37 at hf
 refine Ret.of Try.func37 rfl ?_
 refine WPK.seq ?_
 refine WPK.region ?_
 refine RW.op (by kernel_rfl) (OK.new hT (f := fun b => .pointer (some ⟨b, 0, none⟩)) (cs := [.bool p0.Leaf, .slice A1 p0.Pairs.length u1, .slice A2 p0.Keys.length u2, .slice A3 p0.Kids.length u3]) (e := 26) (c := .tt) s (by kernel_rfl) trivial ?_)
 clear s
 rintro w2 b1 s k1 -
 replace e1 := e1.st k1
 replace e2 := e2.st k1
 replace e3 := e3.st k1
 replace e4 := e4.st k1
 replace e5 := e5.st k1
 replace e6 := e6.st k1
 replace e7 := e7.st k1
 replace kk := kk.trans k1
 refine RW.op (by kernel_rfl) (OK.new hT (f := fun b => .pointer (some ⟨b, 0, none⟩)) (cs := [.bool p2.Leaf, .slice A5 p2.Pairs.length u5, .slice A6 p2.Keys.length u6, .slice A7 p2.Kids.length u7]) (e := 26) (c := .tt) s (by kernel_rfl) trivial ?_)
 clear s
 rintro w3 b2 s k2 -
 replace e1 := e1.st k2
 replace e2 := e2.st k2
 replace e3 := e3.st k2
 replace e4 := e4.st k2
 replace e5 := e5.st k2
 replace e6 := e6.st k2
 replace e7 := e7.st k2
 replace kk := kk.trans k2
 refine RW.op (by kernel_rfl) (OK.new hT (f := fun b => .pointer (some ⟨b, 0, none⟩)) (cs := [.bool false, .slice none 0 0, .slice none 0 0, .slice none 0 0]) (e := 26) (c := .tt) s (by kernel_rfl) trivial ?_)
 clear s
 rintro w4 b3 s k3 -
 replace e1 := e1.st k3
 replace e2 := e2.st k3
 replace e3 := e3.st k3
 replace e4 := e4.st k3
 replace e5 := e5.st k3
 replace e6 := e6.st k3
 replace e7 := e7.st k3
 replace kk := kk.trans k3
 refine RW.seg hT 1 [] [] [.int .i64 0] [] (by kernel_rfl) (trivial) ?_
 refine RW.nil ?_
 refine WPK.seq ?_
 refine WPK.cut' (Kn fun D1 ds wz => ∀ X : Kont, (∀ (I1 : Nat → Prop) (w' : World), g37_j1 p0 p1 p2 = some r → St w1 M I1 ((.blk b3 (.cells #[.bool false, .slice none 0 0, .slice none 0 0, .slice none 0 0] 26 (0, 0))) :: (.blk b2 (.cells #[.bool p2.Leaf, .slice A5 p2.Pairs.length u5, .slice A6 p2.Keys.length u6, .slice A7 p2.Kids.length u7] 26 (0, 0))) :: (.blk b1 (.cells #[.bool p0.Leaf, .slice A1 p0.Pairs.length u1, .slice A2 p0.Keys.length u2, .slice A3 p0.Kids.length u3] 26 (0, 0))) :: F) w' → Kp I w I1 w' → Elems (Rp.int .u8) I1 w' A4 p1 → Elems rp_T_api_Pair I1 w' A5 p2.Pairs → Elems (Rp.slice (Rp.int .u8)) I1 w' A6 p2.Keys → Elems (Rp.int .i64) I1 w' A7 p2.Kids → Elems rp_T_api_Pair I1 w' A1 p0.Pairs → Elems (Rp.slice (Rp.int .u8)) I1 w' A2 p0.Keys → Elems (Rp.int .i64) I1 w' A3 p0.Kids → X [(gd D1 0), .slice A4 p1.length u4, (gd D1 2), .pointer (some ⟨b1, 0, none⟩), (gd D1 4), .pointer (some ⟨b2, 0, none⟩), .pointer (some ⟨b3, 0, none⟩), .int .i64 0, undef, undef, (gd D1 10), (gd D1 11), (gd D1 12), (gd D1 13), (gd D1 14), (gd D1 15), (gd D1 16), (gd D1 17), (gd D1 18), (gd D1 19), (gd D1 20), (gd D1 21), (gd D1 22), (gd D1 23), (gd D1 24), (gd D1 25), (gd D1 26), (gd D1 27), (gd D1 28), (gd D1 29), (gd D1 30), (gd D1 31), (gd D1 32), (gd D1 33), (gd D1 34), (gd D1 35), (gd D1 36), undef, undef, undef, undef, undef, undef, undef, undef, undef, undef, undef, undef, undef, undef, undef, undef, undef, undef, undef, undef, undef, undef, undef, undef, undef, undef, undef, undef, undef, undef, undef, undef, undef] [] w') → X D1 ds wz) ?_ ?_
 intro X1 hX1
 refine fun D1 _ _ hJ => hJ X1 ?_
 clear s
 intro I1 w5 hf s kk e4 e5 e6 e7 e1 e2 e3
 refine hX1 _ _ _ ?_
 unfold g37_j1 at hf
 refine WPK.seq ?_
 refine WPK.cut' (Kn fun D2 ds wz => ∀ X : Kont, (∀ (I2 : Nat → Prop) (x1 : Bool) (x2 : (List T_api_Pair)) (x3 : (List (List Int))) (x4 : (List Int)) (x5 : Bool) (x6 : (List T_api_Pair)) (x7 : (List (List Int))) (x8 : (List Int)) (b4 : Nat) (b5 : Nat) (A11 : Option Addr) (n4 : Nat) (u11 : Nat) (cl4 : List Value) (A12 : Option Addr) (n5 : Nat) (u12 : Nat) (cl5 : List Value) (A13 : Option Addr) (n6 : Nat) (u13 : Nat) (cl6 : List Value) (A14 : Option Addr) (n7 : Nat) (u14 : Nat) (cl7 : List Value) (A15 : Option Addr) (n8 : Nat) (u15 : Nat) (cl8 : List Value) (A16 : Option Addr) (n9 : Nat) (u16 : Nat) (cl9 : List Value) (w' : World), g37_j2 p1 x1 x2 x3 x4 x5 x6 x7 x8 = some r → St w1 M I2 ((.blk b5 (.cells #[.bool x1, .slice A11 n4 u11, .slice A12 n5 u12, .slice A13 n6 u13] 26 (0, 0))) :: (.blk b4 (.cells #[.bool x5, .slice A14 n7 u14, .slice A15 n8 u15, .slice A16 n9 u16] 26 (0, 0))) :: (.sl (.slice A11 n4 u11) 48 2 n4 cl4) :: (.sl (.slice A12 n5 u12) 27 1 n5 cl5) :: (.sl (.slice A13 n6 u13) 3 1 n6 cl6) :: (.sl (.slice A14 n7 u14) 48 2 n7 cl7) :: (.sl (.slice A15 n8 u15) 27 1 n8 cl8) :: (.sl (.slice A16 n9 u16) 3 1 n9 cl9) :: (.blk b3 (.cells #[.bool false, .slice none 0 0, .slice none 0 0, .slice none 0 0] 26 (0, 0))) :: F) w' → Kp I w I2 w' → Elems (Rp.int .u8) I2 w' A4 p1 → n4 = x2.length → RepL rp_T_api_Pair I2 w' cl4 x2 → n5 = x3.length → RepL (Rp.slice (Rp.int .u8)) I2 w' cl5 x3 → n6 = x4.length → RepL (Rp.int .i64) I2 w' cl6 x4 → n7 = x6.length → RepL rp_T_api_Pair I2 w' cl7 x6 → n8 = x7.length → RepL (Rp.slice (Rp.int .u8)) I2 w' cl8 x7 → n9 = x8.length → RepL (Rp.int .i64) I2 w' cl9 x8 → X [(gd D2 0), .slice A4 p1.length u4, (gd D2 2), (gd D2 3), (gd D2 4), (gd D2 5), .pointer (some ⟨b3, 0, none⟩), .int .i64 0, .pointer (some ⟨b4, 0, none⟩), .pointer (some ⟨b5, 0, none⟩), (gd D2 10), (gd D2 11), (gd D2 12), (gd D2 13), (gd D2 14), (gd D2 15), (gd D2 16), (gd D2 17), (gd D2 18), (gd D2 19), (gd D2 20), (gd D2 21), (gd D2 22), (gd D2 23), (gd D2 24), (gd D2 25), (gd D2 26), (gd D2 27), (gd D2 28), (gd D2 29), (gd D2 30), (gd D2 31), (gd D2 32), (gd D2 33), (gd D2 34), (gd D2 35), (gd D2 36), (gd D2 37), (gd D2 38), (gd D2 39), (gd D2 40), undef, undef, undef, undef, undef, undef, undef, undef, undef, undef, undef, undef, undef, undef, undef, undef, undef, undef, undef, undef, undef, undef, undef, undef, undef, undef, undef, undef, undef] [] w') → X D2 ds wz) ?_ ?_
 intro X2 hX2
 refine fun D2 _ _ hJ => hJ X2 ?_
 clear s
 intro I2 x1 x2 x3 x4 x5 x6 x7 x8 b4 b5 A11 n4 u11 cl4 A12 n5 u12 cl5 A13 n6 u13 cl6 A14 n7 u14 cl7 A15 n8 u15 cl8 A16 n9 u16 cl9 w6 hf s kk e4 hn1 rp1 hn2 rp2 hn3 rp3 hn4 rp4 hn5 rp5 hn6 rp6
 refine hX2 _ _ _ ?_
 unfold g37_j2 at hf
 refine WPK.seq ?_
 refine WPK.region ?_
 refine RW.seg hT 4 [.slice A14 n7 u14, .slice A11 n4 u11] [] [.pointer (some ⟨b4, 1, none⟩), .slice A14 n7 u14, .pointer (some ⟨b5, 1, none⟩), .slice A11 n4 u11] [.cell ⟨b4, 1, none⟩ (.slice A14 n7 u14), .cell ⟨b5, 1, none⟩ (.slice A11 n4 u11)] (by kernel_rfl) (⟨s.cell (i := 1) (off := 1) rfl rfl, s.cell (i := 0) (off := 1) rfl rfl⟩) ?_
 have hs1 := St.src s (i := 2) rfl hn1 rp1
 have rq1 := rp1
 obtain ⟨x9, hx1, hf⟩ := bindS hf
 refine RW.op (by kernel_rfl) (OK.app hT (r := rp_T_api_Pair) (i := 5) (t := 22) (e := 48) (size := 2) (bytes := 48) (c := u14) (n := n7) (m := n4) s (by kernel_rfl) rfl rfl rfl rfl rfl (by decide) rfl rfl hn4 hn1 rp4 hs1 rq1 (flat_iso (flat_pair flat_slice flat_slice)) rfl hx1 ?_)
 clear s
 rintro A17 u17 cl10 w7 s k4 rp7
 replace e4 := e4.st k4
 replace rp1 := rp1.st k4
 replace rp2 := rp2.st k4
 replace rp3 := rp3.st k4
 replace rp4 := rp4.st k4
 replace rp5 := rp5.st k4
 replace rp6 := rp6.st k4
 replace kk := kk.trans k4
 refine RW.seg hT 1 [] [] [.pointer (some ⟨b4, 1, none⟩)] [] (by kernel_rfl) (trivial) ?_
 refine RW.op (by kernel_rfl) (OK.store hT (i := 1) (b := b4) (off := 1) (n := 1) (vs := [.slice A17 x9.length u17]) (cs := [.bool x5, (.slice A14 n7 u14), .slice A15 n8 u15, .slice A16 n9 u16]) (e := 26) s (by kernel_rfl) rfl rfl (flat_ok rfl) (Nat.le_of_ble_eq_true rfl) ?_)
 clear s
 rintro w8 s k5 -
 replace e4 := e4.st k5
 replace rp1 := rp1.st k5
 replace rp2 := rp2.st k5
 replace rp3 := rp3.st k5
 replace rp7 := rp7.st k5
 replace rp5 := rp5.st k5
 replace rp6 := rp6.st k5
 replace kk := kk.trans k5
 refine RW.nil ?_
 refine WPK.seq ?_
 refine WPK.seq ?_
 refine WPK.region ?_
 refine RW.seg hT 3 [.bool x5] [(49, .bool (decide (¬ (x5 = true))))] [.pointer (some ⟨b4, 0, none⟩), .bool x5, .bool (decide (¬ (x5 = true)))] [.cell ⟨b4, 0, none⟩ (.bool x5), .veq (.bool (!x5)) (.bool (decide (¬ (x5 = true))))] (by kernel_rfl) (⟨s.cell (i := 1) (off := 0) rfl rfl, not_b⟩) ?_
 refine RW.nil ?_
 by_cases h1 : ¬ (x5 = true)
 have hf := iteT h1 hf
 refine WPK.condT (Eq.trans (b := .bool (decide (¬ (x5 = true)))) (by kernel_rfl) (bo_t h1)) ?_
 refine WPK.seq ?_
 refine WPK.cut' (Kn fun D3 ds wz => ∀ X : Kont, (∀ (I3 : Nat → Prop) (x10 : (List (List Int))) (A18 : Option Addr) (u18 : Nat) (cl11 : List Value) (w' : World), g37_j3 x4 x5 x8 x9 x10 = some r → St w1 M I3 ((.blk b5 (.cells #[.bool x1, .slice A11 n4 u11, .slice A12 n5 u12, .slice A13 n6 u13] 26 (0, 0))) :: (.blk b4 (.cells #[.bool x5, .slice A17 x9.length u17, .slice A18 x10.length u18, .slice A16 n9 u16] 26 (0, 0))) :: (.sl (.slice A11 n4 u11) 48 2 n4 cl4) :: (.sl (.slice A12 n5 u12) 27 1 n5 cl5) :: (.sl (.slice A13 n6 u13) 3 1 n6 cl6) :: (.sl (.slice A17 x9.length u17) 48 2 x9.length cl10) :: (.sl (.slice A18 x10.length u18) 27 1 x10.length cl11) :: (.sl (.slice A16 n9 u16) 3 1 n9 cl9) :: (.blk b3 (.cells #[.bool false, .slice none 0 0, .slice none 0 0, .slice none 0 0] 26 (0, 0))) :: F) w' → Kp I w I3 w' → RepL (Rp.slice (Rp.int .u8)) I3 w' cl11 x10 → RepL rp_T_api_Pair I3 w' cl4 x2 → RepL (Rp.slice (Rp.int .u8)) I3 w' cl5 x3 → RepL (Rp.int .i64) I3 w' cl6 x4 → RepL rp_T_api_Pair I3 w' cl10 x9 → RepL (Rp.int .i64) I3 w' cl9 x8 → X [(gd D3 0), (gd D3 1), (gd D3 2), (gd D3 3), (gd D3 4), (gd D3 5), .pointer (some ⟨b3, 0, none⟩), .int .i64 0, .pointer (some ⟨b4, 0, none⟩), .pointer (some ⟨b5, 0, none⟩), (gd D3 10), (gd D3 11), (gd D3 12), (gd D3 13), (gd D3 14), (gd D3 15), (gd D3 16), (gd D3 17), (gd D3 18), (gd D3 19), (gd D3 20), (gd D3 21), (gd D3 22), (gd D3 23), (gd D3 24), (gd D3 25), (gd D3 26), (gd D3 27), (gd D3 28), (gd D3 29), (gd D3 30), (gd D3 31), (gd D3 32), (gd D3 33), (gd D3 34), (gd D3 35), (gd D3 36), (gd D3 37), (gd D3 38), (gd D3 39), (gd D3 40), (gd D3 41), (gd D3 42), (gd D3 43), (gd D3 44), (gd D3 45), (gd D3 46), (gd D3 47), (gd D3 48), (gd D3 49), (gd D3 50), (gd D3 51), (gd D3 52), (gd D3 53), (gd D3 54), (gd D3 55), (gd D3 56), (gd D3 57), (gd D3 58), (gd D3 59), undef, undef, undef, undef, undef, undef, undef, undef, undef, undef] [] w') → X D3 ds wz) ?_ ?_
 intro X3 hX3
 refine fun D3 _ _ hJ => hJ X3 ?_
 clear s
 intro I3 x10 A18 u18 cl11 w9 hf s kk rp8 rp1 rp2 rp3 rp7 rp6
 refine hX3 _ _ _ ?_
 unfold g37_j3 at hf
 refine WPK.region ?_
 refine RW.seg hT 4 [.slice A16 n9 u16, .slice A13 n6 u13] [] [.pointer (some ⟨b4, 3, none⟩), .slice A16 n9 u16, .pointer (some ⟨b5, 3, none⟩), .slice A13 n6 u13] [.cell ⟨b4, 3, none⟩ (.slice A16 n9 u16), .cell ⟨b5, 3, none⟩ (.slice A13 n6 u13)] (by kernel_rfl) (⟨s.cell (i := 1) (off := 3) rfl rfl, s.cell (i := 0) (off := 3) rfl rfl⟩) ?_
 have hs2 := St.src s (i := 4) rfl hn3 rp3
 have rq2 := rp3
 obtain ⟨x11, hx2, hf⟩ := bindS hf
 refine RW.op (by kernel_rfl) (OK.app hT (r := (Rp.int .i64)) (i := 7) (t := 24) (e := 3) (size := 1) (bytes := 8) (c := u16) (n := n9) (m := n6) s (by kernel_rfl) rfl rfl rfl rfl rfl (by decide) rfl rfl hn6 hn3 rp6 hs2 rq2 flat_int rfl hx2 ?_)
 clear s
 rintro A19 u19 cl12 w10 s k6 rp9
 replace rp1 := rp1.st k6
 replace rp2 := rp2.st k6
 replace rp3 := rp3.st k6
 replace rp7 := rp7.st k6
 replace rp8 := rp8.st k6
 replace rp6 := rp6.st k6
 replace kk := kk.trans k6
 refine RW.seg hT 1 [] [] [.pointer (some ⟨b4, 3, none⟩)] [] (by kernel_rfl) (trivial) ?_
 refine RW.op (by kernel_rfl) (OK.store hT (i := 1) (b := b4) (off := 3) (n := 1) (vs := [.slice A19 x11.length u19]) (cs := [.bool x5, .slice A17 x9.length u17, .slice A18 x10.length u18, (.slice A16 n9 u16)]) (e := 26) s (by kernel_rfl) rfl rfl (flat_ok rfl) (Nat.le_of_ble_eq_true rfl) ?_)
 clear s
 rintro w11 s k7 -
 replace rp1 := rp1.st k7
 replace rp2 := rp2.st k7
 replace rp3 := rp3.st k7
 replace rp7 := rp7.st k7
 replace rp8 := rp8.st k7
 replace rp9 := rp9.st k7
 replace kk := kk.trans k7
 refine RW.nil ?_
 refine WPK.seq ?_
 refine WPK.region ?_
 refine RW.seg hT 1 [.agg #[.bool x5, .slice A17 x9.length u17, .slice A18 x10.length u18, .slice A19 x11.length u19]] [] [.agg #[.bool x5, .slice A17 x9.length u17, .slice A18 x10.length u18, .slice A19 x11.length u19]] [.cells ⟨b4, 0, none⟩ [.bool x5, .slice A17 x9.length u17, .slice A18 x10.length u18, .slice A19 x11.length u19] 4] (by kernel_rfl) (s.cells (i := 1) rfl rfl rfl) ?_
 refine RW.op (by kernel_rfl) (OK.inl (args := [.agg #[.bool x5, .slice A17 x9.length u17, .slice A18 x10.length u18, .slice A19 x11.length u19]]) en79 (by kernel_rfl) ?_)
 intro R1 hR1
 refine Ret.of Try.func79 rfl ?_
 refine WPK.seq ?_
 refine WPK.region ?_
 refine RW.op (by kernel_rfl) (OK.new hT (f := fun b => .pointer (some ⟨b, 0, none⟩)) (cs := [.bool x5, .slice A17 x9.length u17, .slice A18 x10.length u18, .slice A19 x11.length u19]) (e := 26) (c := .tt) s (by kernel_rfl) trivial ?_)
 clear s
 rintro w12 b6 s k8 -
 replace rp1 := rp1.st k8
 replace rp2 := rp2.st k8
 replace rp3 := rp3.st k8
 replace rp7 := rp7.st k8
 replace rp8 := rp8.st k8
 replace rp9 := rp9.st k8
 replace kk := kk.trans k8
 refine RW.op (by kernel_rfl) (OK.new hT (f := fun b => .pointer (some ⟨b, 0, none⟩)) (cs := [.bool false, .slice none 0 0, .slice none 0 0, .slice none 0 0]) (e := 26) (c := .tt) s (by kernel_rfl) trivial ?_)
 clear s
 rintro w13 b7 s k9 -
 replace rp1 := rp1.st k9
 replace rp2 := rp2.st k9
 replace rp3 := rp3.st k9
 replace rp7 := rp7.st k9
 replace rp8 := rp8.st k9
 replace rp9 := rp9.st k9
 replace kk := kk.trans k9
 refine RW.seg hT 1 [] [] [.int .i64 0] [] (by kernel_rfl) (trivial) ?_
 refine RW.nil ?_
 refine WPK.seq ?_
 refine WPK.seq ?_
 refine WPK.region ?_
 refine RW.seg hT 1 [.agg #[.bool x5, .slice A17 x9.length u17, .slice A18 x10.length u18, .slice A19 x11.length u19]] [] [.agg #[.bool x5, .slice A17 x9.length u17, .slice A18 x10.length u18, .slice A19 x11.length u19]] [.cells ⟨b6, 0, none⟩ [.bool x5, .slice A17 x9.length u17, .slice A18 x10.length u18, .slice A19 x11.length u19] 4] (by kernel_rfl) (s.cells (i := 1) rfl rfl rfl) ?_
 have sa1 := s
 obtain ⟨hc8, e8⟩ := St.lend s (i := 7) rfl rfl rp7
 have k10 := Kp.shut (I := I3) (w := w13) (p := .sl (.slice A17 x9.length u17) 48 2 x9.length cl10)
 replace s := s.shut 7 rfl
 have sa2 := s
 obtain ⟨hc9, e9⟩ := St.lend s (i := 7) rfl rfl (rp8.st k10)
 have k11 := Kp.shut (I := (fun k => I3 k ∨ (It.sl (.slice A17 x9.length u17) 48 2 x9.length cl10).foot = some k)) (w := w13) (p := .sl (.slice A18 x10.length u18) 27 1 x10.length cl11)
 replace s := s.shut 7 rfl
 replace e8 := e8.st k11
 have sa3 := s
 obtain ⟨hc10, e10⟩ := St.lend s (i := 7) rfl rfl ((rp9.st k10).st k11)
 have k12 := Kp.shut (I := (fun k => (fun k => I3 k ∨ (It.sl (.slice A17 x9.length u17) 48 2 x9.length cl10).foot = some k) k ∨ (It.sl (.slice A18 x10.length u18) 27 1 x10.length cl11).foot = some k)) (w := w13) (p := .sl (.slice A19 x11.length u19) 3 1 x11.length cl12)
 replace s := s.shut 7 rfl
 replace e8 := e8.st k12
 replace e9 := e9.st k12
 obtain ⟨x12, hx3, hf⟩ := bindS hf
 refine RW.op (by kernel_rfl) (OK.call' en50 (by kernel_rfl) (c50 (F := (.blk b7 (.cells #[.bool false, .slice none 0 0, .slice none 0 0, .slice none 0 0] 26 (0, 0))) :: (.blk b6 (.cells #[.bool x5, .slice A17 x9.length u17, .slice A18 x10.length u18, .slice A19 x11.length u19] 26 (0, 0))) :: (.blk b5 (.cells #[.bool x1, .slice A11 n4 u11, .slice A12 n5 u12, .slice A13 n6 u13] 26 (0, 0))) :: (.blk b4 (.cells #[.bool x5, .slice A17 x9.length u17, .slice A18 x10.length u18, .slice A19 x11.length u19] 26 (0, 0))) :: (.sl (.slice A11 n4 u11) 48 2 n4 cl4) :: (.sl (.slice A12 n5 u12) 27 1 n5 cl5) :: (.sl (.slice A13 n6 u13) 3 1 n6 cl6) :: (.blk b3 (.cells #[.bool false, .slice none 0 0, .slice none 0 0, .slice none 0 0] 26 (0, 0))) :: F) (T_api_Node.mk x5 x9 x10 x11) A17 u17 A18 u18 A19 u19 hc8 e8 hc9 e9 hc10 e10 s hx3) ?_)
 intro X4 hX4
 refine fun _ _ hJ => hJ X4 ?_
 clear s
 intro I4 w14 s k13
 refine hX4 _ _ ?_
 have s' := St.back sa3 (i := 7) rfl s k13
 replace k13 := Kp.back sa3 (i := 7) rfl k13
 replace s := s'; clear s'
 have s' := St.back sa2 (i := 7) rfl s k13
 replace k13 := Kp.back sa2 (i := 7) rfl k13
 replace s := s'; clear s'
 have s' := St.back sa1 (i := 7) rfl s k13
 replace k13 := Kp.back sa1 (i := 7) rfl k13
 replace s := s'; clear s'
 obtain ⟨I5, s, k13⟩ : ∃ I : Nat → Prop, St w1 M I ((.sl (.slice A17 x9.length u17) 48 2 x9.length cl10) :: (.sl (.slice A18 x10.length u18) 27 1 x10.length cl11) :: (.sl (.slice A19 x11.length u19) 3 1 x11.length cl12) :: (.blk b7 (.cells #[.bool false, .slice none 0 0, .slice none 0 0, .slice none 0 0] 26 (0, 0))) :: (.blk b6 (.cells #[.bool x5, .slice A17 x9.length u17, .slice A18 x10.length u18, .slice A19 x11.length u19] 26 (0, 0))) :: (.blk b5 (.cells #[.bool x1, .slice A11 n4 u11, .slice A12 n5 u12, .slice A13 n6 u13] 26 (0, 0))) :: (.blk b4 (.cells #[.bool x5, .slice A17 x9.length u17, .slice A18 x10.length u18, .slice A19 x11.length u19] 26 (0, 0))) :: (.sl (.slice A11 n4 u11) 48 2 n4 cl4) :: (.sl (.slice A12 n5 u12) 27 1 n5 cl5) :: (.sl (.slice A13 n6 u13) 3 1 n6 cl6) :: (.blk b3 (.cells #[.bool false, .slice none 0 0, .slice none 0 0, .slice none 0 0] 26 (0, 0))) :: F) w14 ∧ Kp _ _ I _ := ⟨_, s, k13⟩
 replace rp1 := rp1.st k13
 replace rp2 := rp2.st k13
 replace rp3 := rp3.st k13
 replace rp7 := rp7.st k13
 replace rp8 := rp8.st k13
 replace rp9 := rp9.st k13
 replace kk := kk.trans k13
 refine RW.seg hT 1 [] [(6, .bool (decide (¬ (x12 = true))))] [.bool (decide (¬ (x12 = true)))] [.veq (.bool (!x12)) (.bool (decide (¬ (x12 = true))))] (by kernel_rfl) (not_b) ?_
 refine RW.nil ?_
 by_cases h2 : ¬ (x12 = true)
 have hf := iteT h2 hf
 refine WPK.condT (Eq.trans (b := .bool (decide (¬ (x12 = true)))) (by kernel_rfl) (bo_t h2)) ?_
 refine WPK.seq ?_
 refine WPK.region ?_
 refine RW.seg hT 1 [] [] [.agg #[.bool false, .slice none 0 0, .slice none 0 0, .slice none 0 0]] [] (by kernel_rfl) (trivial) ?_
 refine RW.op (by kernel_rfl) (OK.store hT (i := 3) (b := b7) (off := 0) (n := 4) (vs := [.bool false, .slice none 0 0, .slice none 0 0, .slice none 0 0]) (cs := [.bool false, .slice none 0 0, .slice none 0 0, .slice none 0 0]) (e := 26) s (by kernel_rfl) rfl rfl (flat_ok rfl) (Nat.le_of_ble_eq_true rfl) ?_)
 clear s
 rintro w15 s k14 -
 replace rp7 := rp7.st k14
 replace rp8 := rp8.st k14
 replace rp9 := rp9.st k14
 replace rp1 := rp1.st k14
 replace rp2 := rp2.st k14
 replace rp3 := rp3.st k14
 replace kk := kk.trans k14
 refine RW.seg hT 1 [] [] [.int .i64 100] [] (by kernel_rfl) (trivial) ?_
 refine RW.nil ?_
 refine WPK.ret (?_)
 refine Fin.of (rs := [.cell 2 26, .tmp 3]) hT [.agg #[.bool false, .slice none 0 0, .slice none 0 0, .slice none 0 0]] (.tuple #[.agg #[.bool false, .slice none 0 0, .slice none 0 0, .slice none 0 0], .int .i64 100]) [.cells ⟨b7, 0, none⟩ [.bool false, .slice none 0 0, .slice none 0 0, .slice none 0 0] 4] rfl (by kernel_rfl) (s.cells (i := 3) rfl rfl rfl) ?_
 refine hR1 _ _ ?_
 refine RW.seg hT 2 [] [] [.agg #[.bool false, .slice none 0 0, .slice none 0 0, .slice none 0 0], .int .i64 100] [] (by kernel_rfl) (trivial) ?_
 refine RW.op (by kernel_rfl) (OK.store hT (i := 10) (b := b3) (off := 0) (n := 4) (vs := [.bool false, .slice none 0 0, .slice none 0 0, .slice none 0 0]) (cs := [.bool false, .slice none 0 0, .slice none 0 0, .slice none 0 0]) (e := 26) s (by kernel_rfl) rfl rfl (flat_ok rfl) (Nat.le_of_ble_eq_true rfl) ?_)
 clear s
 rintro w16 s k15 -
 replace rp7 := rp7.st k15
 replace rp8 := rp8.st k15
 replace rp9 := rp9.st k15
 replace rp1 := rp1.st k15
 replace rp2 := rp2.st k15
 replace rp3 := rp3.st k15
 replace kk := kk.trans k15
 refine RW.seg hT 1 [] [] [.int .i64 100] [] (by kernel_rfl) (trivial) ?_
 refine RW.nil ?_
 refine WPK.ret (?_)
 obtain rfl := someS hf
 refine Fin.of (rs := [.cell 6 26, .tmp 7]) hT [.agg #[.bool false, .slice none 0 0, .slice none 0 0, .slice none 0 0]] (.tuple #[.agg #[.bool false, .slice none 0 0, .slice none 0 0, .slice none 0 0], .int .i64 100]) [.cells ⟨b3, 0, none⟩ [.bool false, .slice none 0 0, .slice none 0 0, .slice none 0 0] 4] rfl (by kernel_rfl) (s.cells (i := 10) rfl rfl rfl) ?_
 replace s := s.pushNil 48 2
 replace s := s.pushNil 27 1
 replace s := s.pushNil 3 1
 replace s := s.pick [2, 1, 0] 14 rfl
 exact fun X h => vc rfl (h I5 none 0 0 [] none 0 0 [] none 0 0 [] _ s kk rfl (RepL.nil (r := rp_T_api_Pair)) rfl (RepL.nil (r := (Rp.slice (Rp.int .u8)))) rfl (RepL.nil (r := (Rp.int .i64))))
 have hf := iteF h2 hf
 refine WPK.condF (Eq.trans (b := .bool (decide (¬ (x12 = true)))) (by kernel_rfl) (bo_f h2)) ?_
 refine WPK.skip ?_
 refine WPK.seq ?_
 refine WPK.region ?_
 refine RW.seg hT 1 [.agg #[.bool x5, .slice A17 x9.length u17, .slice A18 x10.length u18, .slice A19 x11.length u19]] [] [.agg #[.bool x5, .slice A17 x9.length u17, .slice A18 x10.length u18, .slice A19 x11.length u19]] [.cells ⟨b6, 0, none⟩ [.bool x5, .slice A17 x9.length u17, .slice A18 x10.length u18, .slice A19 x11.length u19] 4] (by kernel_rfl) (s.cells (i := 4) rfl rfl rfl) ?_
 refine RW.op (by kernel_rfl) (OK.store hT (i := 3) (b := b7) (off := 0) (n := 4) (vs := [.bool x5, .slice A17 x9.length u17, .slice A18 x10.length u18, .slice A19 x11.length u19]) (cs := [.bool false, .slice none 0 0, .slice none 0 0, .slice none 0 0]) (e := 26) s (by kernel_rfl) rfl rfl (flat_ok rfl) (Nat.le_of_ble_eq_true rfl) ?_)
 clear s
 rintro w17 s k16 -
 replace rp7 := rp7.st k16
 replace rp8 := rp8.st k16
 replace rp9 := rp9.st k16
 replace rp1 := rp1.st k16
 replace rp2 := rp2.st k16
 replace rp3 := rp3.st k16
 replace kk := kk.trans k16
 refine RW.seg hT 1 [] [] [.int .i64 0] [] (by kernel_rfl) (trivial) ?_
 refine RW.nil ?_
 refine WPK.ret (?_)
 refine Fin.of (rs := [.cell 2 26, .tmp 3]) hT [.agg #[.bool x5, .slice A17 x9.length u17, .slice A18 x10.length u18, .slice A19 x11.length u19]] (.tuple #[.agg #[.bool x5, .slice A17 x9.length u17, .slice A18 x10.length u18, .slice A19 x11.length u19], .int .i64 0]) [.cells ⟨b7, 0, none⟩ [.bool x5, .slice A17 x9.length u17, .slice A18 x10.length u18, .slice A19 x11.length u19] 4] rfl (by kernel_rfl) (s.cells (i := 3) rfl rfl rfl) ?_
 refine hR1 _ _ ?_
 refine RW.seg hT 2 [] [] [.agg #[.bool x5, .slice A17 x9.length u17, .slice A18 x10.length u18, .slice A19 x11.length u19], .int .i64 0] [] (by kernel_rfl) (trivial) ?_
 refine RW.op (by kernel_rfl) (OK.store hT (i := 10) (b := b3) (off := 0) (n := 4) (vs := [.bool x5, .slice A17 x9.length u17, .slice A18 x10.length u18, .slice A19 x11.length u19]) (cs := [.bool false, .slice none 0 0, .slice none 0 0, .slice none 0 0]) (e := 26) s (by kernel_rfl) rfl rfl (flat_ok rfl) (Nat.le_of_ble_eq_true rfl) ?_)
 clear s
 rintro w18 s k17 -
 replace rp7 := rp7.st k17
 replace rp8 := rp8.st k17
 replace rp9 := rp9.st k17
 replace rp1 := rp1.st k17
 replace rp2 := rp2.st k17
 replace rp3 := rp3.st k17
 replace kk := kk.trans k17
 refine RW.seg hT 1 [] [] [.int .i64 0] [] (by kernel_rfl) (trivial) ?_
 refine RW.nil ?_
 refine WPK.ret (?_)
 obtain rfl := someS hf
 refine Fin.of (rs := [.cell 6 26, .tmp 7]) hT [.agg #[.bool x5, .slice A17 x9.length u17, .slice A18 x10.length u18, .slice A19 x11.length u19]] (.tuple #[.agg #[.bool x5, .slice A17 x9.length u17, .slice A18 x10.length u18, .slice A19 x11.length u19], .int .i64 0]) [.cells ⟨b3, 0, none⟩ [.bool x5, .slice A17 x9.length u17, .slice A18 x10.length u18, .slice A19 x11.length u19] 4] rfl (by kernel_rfl) (s.cells (i := 10) rfl rfl rfl) ?_
 replace s := s.pick [0, 1, 2] 11 rfl
 exact fun X h => vc rfl (h I5 A17 x9.length u17 cl10 A18 x10.length u18 cl11 A19 x11.length u19 cl12 _ s kk rfl rp7 rfl rp8 rfl rp9)
 have e4S1 := e4
 have rp1S1 := rp1
 have rp2S1 := rp2
 have rp3S1 := rp3
 have rp7S1 := rp7
 have rp5S1 := rp5
 have rp6S1 := rp6
 have kS1 : Kp I2 w8 I2 w8 := Kp.refl
 refine WPK.drawM (fun w' => ∃ I' : Nat → Prop, St w1 M I' ((.blk b5 (.cells #[.bool x1, .slice A11 n4 u11, .slice A12 n5 u12, .slice A13 n6 u13] 26 (0, 0))) :: (.sl (.slice A11 n4 u11) 48 2 n4 cl4) :: (.sl (.slice A12 n5 u12) 27 1 n5 cl5) :: (.sl (.slice A13 n6 u13) 3 1 n6 cl6) :: (.sl (.slice A17 x9.length u17) 48 2 x9.length cl10) :: (.sl (.slice A16 n9 u16) 3 1 n9 cl9) :: (.blk b3 (.cells #[.bool false, .slice none 0 0, .slice none 0 0, .slice none 0 0] 26 (0, 0))) :: F) w' ∧ Kp I2 w8 I' w') 11 [0, 1, 0, 4, 12, 31, 0, 64, 255, 511, 1023] (by kernel_rfl) (by kernel_rfl) ?_
 intro ht1 w19 hd1
 have k18 := Kp.dr s hd1
 replace s := s.dr hd1
 replace e4 := e4.st k18
 replace rp1 := rp1.st k18
 replace rp2 := rp2.st k18
 replace rp3 := rp3.st k18
 replace rp7 := rp7.st k18
 replace rp5 := rp5.st k18
 replace rp6 := rp6.st k18
 replace kk := kk.trans k18
 replace kS1 := kS1.trans k18
 refine RD.segM hT ht1 (by kernel_rfl) [0, 2, 6, 7] [.slice A12 n5 u12] [] [.pointer (some ⟨b4, 2, none⟩), .slice A4 p1.length u4, .pointer (some ⟨b5, 2, none⟩), .slice A12 n5 u12] [.cell ⟨b5, 2, none⟩ (.slice A12 n5 u12)] (by kernel_rfl) (by rintro w' ⟨I', s, k⟩; have e4 := e4S1.st k; have rp1 := rp1S1.st k; have rp2 := rp2S1.st k; have rp3 := rp3S1.st k; have rp7 := rp7S1.st k; have rp5 := rp5S1.st k; have rp6 := rp6S1.st k; exact s.cell (i := 0) (off := 2) rfl rfl) ⟨_, s.pick [0, 2, 3, 4, 5, 7, 8] 9 rfl, kS1⟩ ?_
 obtain ⟨x13, hx4, hf⟩ := bindS hf
 refine RD.ways [1, 3] (by kernel_rfl) (List.forall_mem_cons.2 ⟨?_, List.forall_mem_cons.2 ⟨?_, fun _ h => nomatch h⟩⟩)
 refine RWay.op rfl (by kernel_rfl) (OK.pure hT (ld := (.slice A15 n8 u15)) (v := .slice A15 n8 u15) (c := .cell ⟨b4, 2, none⟩ (.slice A15 n8 u15)) (by kernel_rfl) (s.cell (i := 1) (off := 2) rfl rfl) ?_)
 refine ⟨fun _ => ⟨_, s.pick [0, 2, 3, 4, 5, 7, 8] 9 rfl, kS1⟩, RD.fold ?_⟩
 refine RD.op (i := 3) rfl (by kernel_rfl) (by kernel_rfl) (OK.call' en60 (by kernel_rfl) (c60 (F := (.blk b5 (.cells #[.bool x1, .slice A11 n4 u11, .slice A12 n5 u12, .slice A13 n6 u13] 26 (0, 0))) :: (.blk b4 (.cells #[.bool x5, .slice A17 x9.length u17, .slice A15 n8 u15, .slice A16 n9 u16] 26 (0, 0))) :: (.sl (.slice A11 n4 u11) 48 2 n4 cl4) :: (.sl (.slice A12 n5 u12) 27 1 n5 cl5) :: (.sl (.slice A13 n6 u13) 3 1 n6 cl6) :: (.sl (.slice A17 x9.length u17) 48 2 x9.length cl10) :: (.sl (.slice A15 n8 u15) 27 1 n8 cl8) :: (.sl (.slice A16 n9 u16) 3 1 n9 cl9) :: (.blk b3 (.cells #[.bool false, .slice none 0 0, .slice none 0 0, .slice none 0 0] 26 (0, 0))) :: F) p1 A4 u4 hc4 e4 s hx4) ?_)
 intro X5 hX5
 refine fun _ _ hJ => hJ X5 ?_
 clear s
 intro I6 A20 n10 u20 cl13 w20 s k19 hn7 rp10
 refine hX5 _ _ ?_
 replace e4 := e4.st k19
 replace rp1 := rp1.st k19
 replace rp2 := rp2.st k19
 replace rp3 := rp3.st k19
 replace rp7 := rp7.st k19
 replace rp5 := rp5.st k19
 replace rp6 := rp6.st k19
 replace kk := kk.trans k19
 replace kS1 := kS1.trans k19
 refine ⟨fun _ => ⟨_, s.pick [1, 3, 4, 5, 6, 8, 9] 10 rfl, kS1⟩, RD.fold ?_⟩
 rw [hn7] at s
 try rw [hn7]
 obtain ⟨I7, s', k20, hc11, e11⟩ := St.give s (i := 0) rfl rfl rp10
 replace s := s'; clear s'
 replace e4 := e4.st k20
 replace rp1 := rp1.st k20
 replace rp2 := rp2.st k20
 replace rp3 := rp3.st k20
 replace rp7 := rp7.st k20
 replace rp5 := rp5.st k20
 replace rp6 := rp6.st k20
 replace kk := kk.trans k20
 replace kS1 := kS1.trans k20
 refine RD.op (i := 4) rfl (by kernel_rfl) (by kernel_rfl) (OK.new hT (f := fun b => .slice (some ⟨b, 0, none⟩) 1 1) (cs := [.slice A20 x13.length u20]) (e := 27) (c := .tt) s (by kernel_rfl) trivial ?_)
 clear s
 rintro w21 b8 s k21 -
 replace e4 := e4.st k21
 replace e11 := e11.st k21
 replace rp1 := rp1.st k21
 replace rp2 := rp2.st k21
 replace rp3 := rp3.st k21
 replace rp7 := rp7.st k21
 replace rp5 := rp5.st k21
 replace rp6 := rp6.st k21
 replace kk := kk.trans k21
 replace kS1 := kS1.trans k21
 have rp11 : RepL (Rp.slice (Rp.int .u8)) I7 w21 [.slice A20 x13.length u20] ([x13] : List (List Int)) := RepL.cons (c := [.slice A20 x13.length u20]) (d := []) (⟨_, _, rfl, hc11.1, hc11.2, e11⟩) (RepL.nil)
 replace s : St w1 M I7 ((.sl (.slice (some ⟨b8, 0, none⟩) 1 1) 27 1 1 [.slice A20 x13.length u20]) :: (.blk b5 (.cells #[.bool x1, .slice A11 n4 u11, .slice A12 n5 u12, .slice A13 n6 u13] 26 (0, 0))) :: (.blk b4 (.cells #[.bool x5, .slice A17 x9.length u17, .slice A15 n8 u15, .slice A16 n9 u16] 26 (0, 0))) :: (.sl (.slice A11 n4 u11) 48 2 n4 cl4) :: (.sl (.slice A12 n5 u12) 27 1 n5 cl5) :: (.sl (.slice A13 n6 u13) 3 1 n6 cl6) :: (.sl (.slice A17 x9.length u17) 48 2 x9.length cl10) :: (.sl (.slice A15 n8 u15) 27 1 n8 cl8) :: (.sl (.slice A16 n9 u16) 3 1 n9 cl9) :: (.blk b3 (.cells #[.bool false, .slice none 0 0, .slice none 0 0, .slice none 0 0] 26 (0, 0))) :: F) w21 := s.blkSl (i := 0) (n := 1) (c := 1) (size := 1) rfl rfl (Nat.le_refl _) (by decide)
 refine ⟨fun _ => ⟨_, s.pick [1, 3, 4, 5, 6, 8, 9] 10 rfl, kS1⟩, RD.fold ?_⟩
 have hs3 := St.src s (i := 0) rfl rfl rp11
 have rq3 := rp11
 obtain ⟨x14, hx5, hf⟩ := bindS hf
 refine RD.op (i := 5) rfl (by kernel_rfl) (by kernel_rfl) (OK.app hT (r := (Rp.slice (Rp.int .u8))) (i := 7) (t := 23) (e := 27) (size := 1) (bytes := 24) (c := u15) (n := n8) (m := 1) s (by kernel_rfl) rfl rfl rfl rfl rfl (by decide) rfl rfl hn5 rfl rp5 hs3 rq3 flat_slice rfl hx5 ?_)
 clear s
 rintro A21 u21 cl14 w22 s k22 rp12
 replace e4 := e4.st k22
 replace e11 := e11.st k22
 replace rp11 := rp11.st k22
 replace rp1 := rp1.st k22
 replace rp2 := rp2.st k22
 replace rp3 := rp3.st k22
 replace rp7 := rp7.st k22
 replace rp5 := rp5.st k22
 replace rp6 := rp6.st k22
 replace kk := kk.trans k22
 replace kS1 := kS1.trans k22
 refine ⟨fun _ => ⟨_, s.pick [1, 3, 4, 5, 6, 8, 9] 10 rfl, kS1⟩, RD.fold ?_⟩
 have hs4 := St.src s (i := 4) rfl hn2 rp2
 have rq4 := rp2
 obtain ⟨x15, hx6, hf⟩ := bindS hf
 refine RD.op (i := 8) rfl (by kernel_rfl) (by kernel_rfl) (OK.app hT (r := (Rp.slice (Rp.int .u8))) (i := 7) (t := 23) (e := 27) (size := 1) (bytes := 24) (c := u21) (n := x14.length) (m := n5) s (by kernel_rfl) rfl rfl rfl rfl rfl (by decide) rfl rfl rfl hn2 rp12 hs4 rq4 flat_slice rfl hx6 ?_)
 clear s
 rintro A22 u22 cl15 w23 s k23 rp13
 replace e4 := e4.st k23
 replace e11 := e11.st k23
 replace rp11 := rp11.st k23
 replace rp1 := rp1.st k23
 replace rp2 := rp2.st k23
 replace rp3 := rp3.st k23
 replace rp7 := rp7.st k23
 replace rp12 := rp12.st k23
 replace rp6 := rp6.st k23
 replace kk := kk.trans k23
 replace kS1 := kS1.trans k23
 refine ⟨fun _ => ⟨_, s.pick [1, 3, 4, 5, 6, 8, 9] 10 rfl, kS1⟩, RD.fold ?_⟩
 refine RD.segM hT ht1 (by kernel_rfl) [9] [] [] [.pointer (some ⟨b4, 2, none⟩)] [] (by kernel_rfl) (fun _ _ => trivial) ⟨_, s.pick [1, 3, 4, 5, 6, 8, 9] 10 rfl, kS1⟩ ?_
 refine RD.op (i := 10) rfl (by kernel_rfl) (by kernel_rfl) (OK.store hT (i := 2) (b := b4) (off := 2) (n := 1) (vs := [.slice A22 x15.length u22]) (cs := [.bool x5, .slice A17 x9.length u17, (.slice A15 n8 u15), .slice A16 n9 u16]) (e := 26) s (by kernel_rfl) rfl rfl (flat_ok rfl) (Nat.le_of_ble_eq_true rfl) ?_)
 clear s
 rintro w24 s k24 -
 replace e4 := e4.st k24
 replace e11 := e11.st k24
 replace rp11 := rp11.st k24
 replace rp1 := rp1.st k24
 replace rp2 := rp2.st k24
 replace rp3 := rp3.st k24
 replace rp7 := rp7.st k24
 replace rp13 := rp13.st k24
 replace rp6 := rp6.st k24
 replace kk := kk.trans k24
 replace kS1 := kS1.trans k24
 refine ⟨fun _ => ⟨_, s.pick [1, 3, 4, 5, 6, 8, 9] 10 rfl, kS1⟩, RD.fold ?_⟩
 refine RD.done (by kernel_rfl) ?_
 replace s := s.pick [1, 2, 3, 4, 5, 6, 7, 8, 9] 10 rfl
 exact fun X h => kc (by kernel_rfl) rfl (h I7 x15 A22 u22 cl15 _ hf s kk rp13 rp1 rp2 rp3 rp7 rp6)
 refine RWay.op rfl (by kernel_rfl) (OK.call' en60 (by kernel_rfl) (c60 (F := (.blk b5 (.cells #[.bool x1, .slice A11 n4 u11, .slice A12 n5 u12, .slice A13 n6 u13] 26 (0, 0))) :: (.blk b4 (.cells #[.bool x5, .slice A17 x9.length u17, .slice A15 n8 u15, .slice A16 n9 u16] 26 (0, 0))) :: (.sl (.slice A11 n4 u11) 48 2 n4 cl4) :: (.sl (.slice A12 n5 u12) 27 1 n5 cl5) :: (.sl (.slice A13 n6 u13) 3 1 n6 cl6) :: (.sl (.slice A17 x9.length u17) 48 2 x9.length cl10) :: (.sl (.slice A15 n8 u15) 27 1 n8 cl8) :: (.sl (.slice A16 n9 u16) 3 1 n9 cl9) :: (.blk b3 (.cells #[.bool false, .slice none 0 0, .slice none 0 0, .slice none 0 0] 26 (0, 0))) :: F) p1 A4 u4 hc4 e4 s hx4) ?_)
 intro X6 hX6
 refine fun _ _ hJ => hJ X6 ?_
 clear s
 intro I8 A23 n11 u23 cl16 w25 s k25 hn8 rp14
 refine hX6 _ _ ?_
 replace e4 := e4.st k25
 replace rp1 := rp1.st k25
 replace rp2 := rp2.st k25
 replace rp3 := rp3.st k25
 replace rp7 := rp7.st k25
 replace rp5 := rp5.st k25
 replace rp6 := rp6.st k25
 replace kk := kk.trans k25
 replace kS1 := kS1.trans k25
 refine ⟨fun _ => ⟨_, s.pick [1, 3, 4, 5, 6, 8, 9] 10 rfl, kS1⟩, RD.fold ?_⟩
 refine RD.ways [1, 4] (by kernel_rfl) (List.forall_mem_cons.2 ⟨?_, List.forall_mem_cons.2 ⟨?_, fun _ h => nomatch h⟩⟩)
 refine RWay.op rfl (by kernel_rfl) (OK.pure hT (ld := (.slice A15 n8 u15)) (v := .slice A15 n8 u15) (c := .cell ⟨b4, 2, none⟩ (.slice A15 n8 u15)) (by kernel_rfl) (s.cell (i := 2) (off := 2) rfl rfl) ?_)
 refine ⟨fun _ => ⟨_, s.pick [1, 3, 4, 5, 6, 8, 9] 10 rfl, kS1⟩, RD.fold ?_⟩
 rw [hn8] at s
 try rw [hn8]
 obtain ⟨I9, s', k26, hc12, e12⟩ := St.give s (i := 0) rfl rfl rp14
 replace s := s'; clear s'
 replace e4 := e4.st k26
 replace rp1 := rp1.st k26
 replace rp2 := rp2.st k26
 replace rp3 := rp3.st k26
 replace rp7 := rp7.st k26
 replace rp5 := rp5.st k26
 replace rp6 := rp6.st k26
 replace kk := kk.trans k26
 replace kS1 := kS1.trans k26
 refine RD.op (i := 4) rfl (by kernel_rfl) (by kernel_rfl) (OK.new hT (f := fun b => .slice (some ⟨b, 0, none⟩) 1 1) (cs := [.slice A23 x13.length u23]) (e := 27) (c := .tt) s (by kernel_rfl) trivial ?_)
 clear s
 rintro w26 b9 s k27 -
 replace e4 := e4.st k27
 replace e12 := e12.st k27
 replace rp1 := rp1.st k27
 replace rp2 := rp2.st k27
 replace rp3 := rp3.st k27
 replace rp7 := rp7.st k27
 replace rp5 := rp5.st k27
 replace rp6 := rp6.st k27
 replace kk := kk.trans k27
 replace kS1 := kS1.trans k27
 have rp15 : RepL (Rp.slice (Rp.int .u8)) I9 w26 [.slice A23 x13.length u23] ([x13] : List (List Int)) := RepL.cons (c := [.slice A23 x13.length u23]) (d := []) (⟨_, _, rfl, hc12.1, hc12.2, e12⟩) (RepL.nil)
 replace s : St w1 M I9 ((.sl (.slice (some ⟨b9, 0, none⟩) 1 1) 27 1 1 [.slice A23 x13.length u23]) :: (.blk b5 (.cells #[.bool x1, .slice A11 n4 u11, .slice A12 n5 u12, .slice A13 n6 u13] 26 (0, 0))) :: (.blk b4 (.cells #[.bool x5, .slice A17 x9.length u17, .slice A15 n8 u15, .slice A16 n9 u16] 26 (0, 0))) :: (.sl (.slice A11 n4 u11) 48 2 n4 cl4) :: (.sl (.slice A12 n5 u12) 27 1 n5 cl5) :: (.sl (.slice A13 n6 u13) 3 1 n6 cl6) :: (.sl (.slice A17 x9.length u17) 48 2 x9.length cl10) :: (.sl (.slice A15 n8 u15) 27 1 n8 cl8) :: (.sl (.slice A16 n9 u16) 3 1 n9 cl9) :: (.blk b3 (.cells #[.bool false, .slice none 0 0, .slice none 0 0, .slice none 0 0] 26 (0, 0))) :: F) w26 := s.blkSl (i := 0) (n := 1) (c := 1) (size := 1) rfl rfl (Nat.le_refl _) (by decide)
 refine ⟨fun _ => ⟨_, s.pick [1, 3, 4, 5, 6, 8, 9] 10 rfl, kS1⟩, RD.fold ?_⟩
 have hs5 := St.src s (i := 0) rfl rfl rp15
 have rq5 := rp15
 obtain ⟨x16, hx7, hf⟩ := bindS hf
 refine RD.op (i := 5) rfl (by kernel_rfl) (by kernel_rfl) (OK.app hT (r := (Rp.slice (Rp.int .u8))) (i := 7) (t := 23) (e := 27) (size := 1) (bytes := 24) (c := u15) (n := n8) (m := 1) s (by kernel_rfl) rfl rfl rfl rfl rfl (by decide) rfl rfl hn5 rfl rp5 hs5 rq5 flat_slice rfl hx7 ?_)
 clear s
 rintro A24 u24 cl17 w27 s k28 rp16
 replace e4 := e4.st k28
 replace e12 := e12.st k28
 replace rp15 := rp15.st k28
 replace rp1 := rp1.st k28
 replace rp2 := rp2.st k28
 replace rp3 := rp3.st k28
 replace rp7 := rp7.st k28
 replace rp5 := rp5.st k28
 replace rp6 := rp6.st k28
 replace kk := kk.trans k28
 replace kS1 := kS1.trans k28
 refine ⟨fun _ => ⟨_, s.pick [1, 3, 4, 5, 6, 8, 9] 10 rfl, kS1⟩, RD.fold ?_⟩
 have hs6 := St.src s (i := 4) rfl hn2 rp2
 have rq6 := rp2
 obtain ⟨x17, hx8, hf⟩ := bindS hf
 refine RD.op (i := 8) rfl (by kernel_rfl) (by kernel_rfl) (OK.app hT (r := (Rp.slice (Rp.int .u8))) (i := 7) (t := 23) (e := 27) (size := 1) (bytes := 24) (c := u24) (n := x16.length) (m := n5) s (by kernel_rfl) rfl rfl rfl rfl rfl (by decide) rfl rfl rfl hn2 rp16 hs6 rq6 flat_slice rfl hx8 ?_)
 clear s
 rintro A25 u25 cl18 w28 s k29 rp17
 replace e4 := e4.st k29
 replace e12 := e12.st k29
 replace rp15 := rp15.st k29
 replace rp1 := rp1.st k29
 replace rp2 := rp2.st k29
 replace rp3 := rp3.st k29
 replace rp7 := rp7.st k29
 replace rp16 := rp16.st k29
 replace rp6 := rp6.st k29
 replace kk := kk.trans k29
 replace kS1 := kS1.trans k29
 refine ⟨fun _ => ⟨_, s.pick [1, 3, 4, 5, 6, 8, 9] 10 rfl, kS1⟩, RD.fold ?_⟩
 refine RD.segM hT ht1 (by kernel_rfl) [9] [] [] [.pointer (some ⟨b4, 2, none⟩)] [] (by kernel_rfl) (fun _ _ => trivial) ⟨_, s.pick [1, 3, 4, 5, 6, 8, 9] 10 rfl, kS1⟩ ?_
 refine RD.op (i := 10) rfl (by kernel_rfl) (by kernel_rfl) (OK.store hT (i := 2) (b := b4) (off := 2) (n := 1) (vs := [.slice A25 x17.length u25]) (cs := [.bool x5, .slice A17 x9.length u17, (.slice A15 n8 u15), .slice A16 n9 u16]) (e := 26) s (by kernel_rfl) rfl rfl (flat_ok rfl) (Nat.le_of_ble_eq_true rfl) ?_)
 clear s
 rintro w29 s k30 -
 replace e4 := e4.st k30
 replace e12 := e12.st k30
 replace rp15 := rp15.st k30
 replace rp1 := rp1.st k30
 replace rp2 := rp2.st k30
 replace rp3 := rp3.st k30
 replace rp7 := rp7.st k30
 replace rp17 := rp17.st k30
 replace rp6 := rp6.st k30
 replace kk := kk.trans k30
 replace kS1 := kS1.trans k30
 refine ⟨fun _ => ⟨_, s.pick [1, 3, 4, 5, 6, 8, 9] 10 rfl, kS1⟩, RD.fold ?_⟩
 refine RD.done (by kernel_rfl) ?_
 replace s := s.pick [1, 2, 3, 4, 5, 6, 7, 8, 9] 10 rfl
 exact fun X h => kc (by kernel_rfl) rfl (h I9 x17 A25 u25 cl18 _ hf s kk rp17 rp1 rp2 rp3 rp7 rp6)
 rw [hn8] at s
 try rw [hn8]
 obtain ⟨I9, s', k26, hc12, e12⟩ := St.give s (i := 0) rfl rfl rp14
 replace s := s'; clear s'
 replace e4 := e4.st k26
 replace rp1 := rp1.st k26
 replace rp2 := rp2.st k26
 replace rp3 := rp3.st k26
 replace rp7 := rp7.st k26
 replace rp5 := rp5.st k26
 replace rp6 := rp6.st k26
 replace kk := kk.trans k26
 replace kS1 := kS1.trans k26
 refine RWay.op rfl (by kernel_rfl) (OK.new hT (f := fun b => .slice (some ⟨b, 0, none⟩) 1 1) (cs := [.slice A23 x13.length u23]) (e := 27) (c := .tt) s (by kernel_rfl) trivial ?_)
 clear s
 rintro w26 b9 s k27 -
 replace e4 := e4.st k27
 replace e12 := e12.st k27
 replace rp1 := rp1.st k27
 replace rp2 := rp2.st k27
 replace rp3 := rp3.st k27
 replace rp7 := rp7.st k27
 replace rp5 := rp5.st k27
 replace rp6 := rp6.st k27
 replace kk := kk.trans k27
 replace kS1 := kS1.trans k27
 have rp15 : RepL (Rp.slice (Rp.int .u8)) I9 w26 [.slice A23 x13.length u23] ([x13] : List (List Int)) := RepL.cons (c := [.slice A23 x13.length u23]) (d := []) (⟨_, _, rfl, hc12.1, hc12.2, e12⟩) (RepL.nil)
 replace s : St w1 M I9 ((.sl (.slice (some ⟨b9, 0, none⟩) 1 1) 27 1 1 [.slice A23 x13.length u23]) :: (.blk b5 (.cells #[.bool x1, .slice A11 n4 u11, .slice A12 n5 u12, .slice A13 n6 u13] 26 (0, 0))) :: (.blk b4 (.cells #[.bool x5, .slice A17 x9.length u17, .slice A15 n8 u15, .slice A16 n9 u16] 26 (0, 0))) :: (.sl (.slice A11 n4 u11) 48 2 n4 cl4) :: (.sl (.slice A12 n5 u12) 27 1 n5 cl5) :: (.sl (.slice A13 n6 u13) 3 1 n6 cl6) :: (.sl (.slice A17 x9.length u17) 48 2 x9.length cl10) :: (.sl (.slice A15 n8 u15) 27 1 n8 cl8) :: (.sl (.slice A16 n9 u16) 3 1 n9 cl9) :: (.blk b3 (.cells #[.bool false, .slice none 0 0, .slice none 0 0, .slice none 0 0] 26 (0, 0))) :: F) w26 := s.blkSl (i := 0) (n := 1) (c := 1) (size := 1) rfl rfl (Nat.le_refl _) (by decide)
 refine ⟨fun _ => ⟨_, s.pick [1, 3, 4, 5, 6, 8, 9] 10 rfl, kS1⟩, RD.fold ?_⟩
 refine RD.op (i := 1) rfl (by kernel_rfl) (by kernel_rfl) (OK.pure hT (ld := (.slice A15 n8 u15)) (v := .slice A15 n8 u15) (c := .cell ⟨b4, 2, none⟩ (.slice A15 n8 u15)) (by kernel_rfl) (s.cell (i := 2) (off := 2) rfl rfl) ?_)
 refine ⟨fun _ => ⟨_, s.pick [1, 3, 4, 5, 6, 8, 9] 10 rfl, kS1⟩, RD.fold ?_⟩
 have hs7 := St.src s (i := 0) rfl rfl rp15
 have rq7 := rp15
 obtain ⟨x18, hx9, hf⟩ := bindS hf
 refine RD.op (i := 5) rfl (by kernel_rfl) (by kernel_rfl) (OK.app hT (r := (Rp.slice (Rp.int .u8))) (i := 7) (t := 23) (e := 27) (size := 1) (bytes := 24) (c := u15) (n := n8) (m := 1) s (by kernel_rfl) rfl rfl rfl rfl rfl (by decide) rfl rfl hn5 rfl rp5 hs7 rq7 flat_slice rfl hx9 ?_)
 clear s
 rintro A26 u26 cl19 w30 s k31 rp18
 replace e4 := e4.st k31
 replace e12 := e12.st k31
 replace rp15 := rp15.st k31
 replace rp1 := rp1.st k31
 replace rp2 := rp2.st k31
 replace rp3 := rp3.st k31
 replace rp7 := rp7.st k31
 replace rp5 := rp5.st k31
 replace rp6 := rp6.st k31
 replace kk := kk.trans k31
 replace kS1 := kS1.trans k31
 refine ⟨fun _ => ⟨_, s.pick [1, 3, 4, 5, 6, 8, 9] 10 rfl, kS1⟩, RD.fold ?_⟩
 have hs8 := St.src s (i := 4) rfl hn2 rp2
 have rq8 := rp2
 obtain ⟨x19, hx10, hf⟩ := bindS hf
 refine RD.op (i := 8) rfl (by kernel_rfl) (by kernel_rfl) (OK.app hT (r := (Rp.slice (Rp.int .u8))) (i := 7) (t := 23) (e := 27) (size := 1) (bytes := 24) (c := u26) (n := x18.length) (m := n5) s (by kernel_rfl) rfl rfl rfl rfl rfl (by decide) rfl rfl rfl hn2 rp18 hs8 rq8 flat_slice rfl hx10 ?_)
 clear s
 rintro A27 u27 cl20 w31 s k32 rp19
 replace e4 := e4.st k32
 replace e12 := e12.st k32
 replace rp15 := rp15.st k32
 replace rp1 := rp1.st k32
 replace rp2 := rp2.st k32
 replace rp3 := rp3.st k32
 replace rp7 := rp7.st k32
 replace rp18 := rp18.st k32
 replace rp6 := rp6.st k32
 replace kk := kk.trans k32
 replace kS1 := kS1.trans k32
 refine ⟨fun _ => ⟨_, s.pick [1, 3, 4, 5, 6, 8, 9] 10 rfl, kS1⟩, RD.fold ?_⟩
 refine RD.segM hT ht1 (by kernel_rfl) [9] [] [] [.pointer (some ⟨b4, 2, none⟩)] [] (by kernel_rfl) (fun _ _ => trivial) ⟨_, s.pick [1, 3, 4, 5, 6, 8, 9] 10 rfl, kS1⟩ ?_
 refine RD.op (i := 10) rfl (by kernel_rfl) (by kernel_rfl) (OK.store hT (i := 2) (b := b4) (off := 2) (n := 1) (vs := [.slice A27 x19.length u27]) (cs := [.bool x5, .slice A17 x9.length u17, (.slice A15 n8 u15), .slice A16 n9 u16]) (e := 26) s (by kernel_rfl) rfl rfl (flat_ok rfl) (Nat.le_of_ble_eq_true rfl) ?_)
 clear s
 rintro w32 s k33 -
 replace e4 := e4.st k33
 replace e12 := e12.st k33
 replace rp15 := rp15.st k33
 replace rp1 := rp1.st k33
 replace rp2 := rp2.st k33
 replace rp3 := rp3.st k33
 replace rp7 := rp7.st k33
 replace rp19 := rp19.st k33
 replace rp6 := rp6.st k33
 replace kk := kk.trans k33
 replace kS1 := kS1.trans k33
 refine ⟨fun _ => ⟨_, s.pick [1, 3, 4, 5, 6, 8, 9] 10 rfl, kS1⟩, RD.fold ?_⟩
 refine RD.done (by kernel_rfl) ?_
 replace s := s.pick [1, 2, 3, 4, 5, 6, 7, 8, 9] 10 rfl
 exact fun X h => kc (by kernel_rfl) rfl (h I9 x19 A27 u27 cl20 _ hf s kk rp19 rp1 rp2 rp3 rp7 rp6)
 have hf := iteF h1 hf
 refine WPK.condF (Eq.trans (b := .bool (decide (¬ (x5 = true)))) (by kernel_rfl) (bo_f h1)) ?_
 refine WPK.skip ?_
 refine WPK.seq ?_
 refine WPK.region ?_
 refine RW.seg hT 1 [.agg #[.bool x5, .slice A17 x9.length u17, .slice A15 n8 u15, .slice A16 n9 u16]] [] [.agg #[.bool x5, .slice A17 x9.length u17, .slice A15 n8 u15, .slice A16 n9 u16]] [.cells ⟨b4, 0, none⟩ [.bool x5, .slice A17 x9.length u17, .slice A15 n8 u15, .slice A16 n9 u16] 4] (by kernel_rfl) (s.cells (i := 1) rfl rfl rfl) ?_
 refine RW.op (by kernel_rfl) (OK.inl (args := [.agg #[.bool x5, .slice A17 x9.length u17, .slice A15 n8 u15, .slice A16 n9 u16]]) en79 (by kernel_rfl) ?_)
 intro R2 hR2
 refine Ret.of Try.func79 rfl ?_
 refine WPK.seq ?_
 refine WPK.region ?_
 refine RW.op (by kernel_rfl) (OK.new hT (f := fun b => .pointer (some ⟨b, 0, none⟩)) (cs := [.bool x5, .slice A17 x9.length u17, .slice A15 n8 u15, .slice A16 n9 u16]) (e := 26) (c := .tt) s (by kernel_rfl) trivial ?_)
 clear s
 rintro w33 b10 s k34 -
 replace rp1 := rp1.st k34
 replace rp2 := rp2.st k34
 replace rp3 := rp3.st k34
 replace rp7 := rp7.st k34
 replace rp5 := rp5.st k34
 replace rp6 := rp6.st k34
 replace kk := kk.trans k34
 refine RW.op (by kernel_rfl) (OK.new hT (f := fun b => .pointer (some ⟨b, 0, none⟩)) (cs := [.bool false, .slice none 0 0, .slice none 0 0, .slice none 0 0]) (e := 26) (c := .tt) s (by kernel_rfl) trivial ?_)
 clear s
 rintro w34 b11 s k35 -
 replace rp1 := rp1.st k35
 replace rp2 := rp2.st k35
 replace rp3 := rp3.st k35
 replace rp7 := rp7.st k35
 replace rp5 := rp5.st k35
 replace rp6 := rp6.st k35
 replace kk := kk.trans k35
 refine RW.seg hT 1 [] [] [.int .i64 0] [] (by kernel_rfl) (trivial) ?_
 refine RW.nil ?_
 refine WPK.seq ?_
 refine WPK.seq ?_
 refine WPK.region ?_
 refine RW.seg hT 1 [.agg #[.bool x5, .slice A17 x9.length u17, .slice A15 n8 u15, .slice A16 n9 u16]] [] [.agg #[.bool x5, .slice A17 x9.length u17, .slice A15 n8 u15, .slice A16 n9 u16]] [.cells ⟨b10, 0, none⟩ [.bool x5, .slice A17 x9.length u17, .slice A15 n8 u15, .slice A16 n9 u16] 4] (by kernel_rfl) (s.cells (i := 1) rfl rfl rfl) ?_
 have sa4 := s
 obtain ⟨hc13, e13⟩ := St.lend s (i := 7) rfl rfl rp7
 have k36 := Kp.shut (I := I2) (w := w34) (p := .sl (.slice A17 x9.length u17) 48 2 x9.length cl10)
 replace s := s.shut 7 rfl
 have sa5 := s
 obtain ⟨hc14, e14⟩ := St.lend s (i := 7) rfl hn5 (rp5.st k36)
 have k37 := Kp.shut (I := (fun k => I2 k ∨ (It.sl (.slice A17 x9.length u17) 48 2 x9.length cl10).foot = some k)) (w := w34) (p := .sl (.slice A15 n8 u15) 27 1 n8 cl8)
 replace s := s.shut 7 rfl
 replace e13 := e13.st k37
 have sa6 := s
 obtain ⟨hc15, e15⟩ := St.lend s (i := 7) rfl hn6 ((rp6.st k36).st k37)
 have k38 := Kp.shut (I := (fun k => (fun k => I2 k ∨ (It.sl (.slice A17 x9.length u17) 48 2 x9.length cl10).foot = some k) k ∨ (It.sl (.slice A15 n8 u15) 27 1 n8 cl8).foot = some k)) (w := w34) (p := .sl (.slice A16 n9 u16) 3 1 n9 cl9)
 replace s := s.shut 7 rfl
 replace e13 := e13.st k38
 replace e14 := e14.st k38
 obtain ⟨x20, hx11, hf⟩ := bindS hf
 have hc16 := c50 (F := (.blk b11 (.cells #[.bool false, .slice none 0 0, .slice none 0 0, .slice none 0 0] 26 (0, 0))) :: (.blk b10 (.cells #[.bool x5, .slice A17 x9.length u17, .slice A15 n8 u15, .slice A16 n9 u16] 26 (0, 0))) :: (.blk b5 (.cells #[.bool x1, .slice A11 n4 u11, .slice A12 n5 u12, .slice A13 n6 u13] 26 (0, 0))) :: (.blk b4 (.cells #[.bool x5, .slice A17 x9.length u17, .slice A15 n8 u15, .slice A16 n9 u16] 26 (0, 0))) :: (.sl (.slice A11 n4 u11) 48 2 n4 cl4) :: (.sl (.slice A12 n5 u12) 27 1 n5 cl5) :: (.sl (.slice A13 n6 u13) 3 1 n6 cl6) :: (.blk b3 (.cells #[.bool false, .slice none 0 0, .slice none 0 0, .slice none 0 0] 26 (0, 0))) :: F) (T_api_Node.mk x5 x9 x7 x8) A17 u17 A15 u15 A16 u16 hc13 e13 hc14 e14 hc15 e15 s hx11
 rw [← hn5, ← hn6] at hc16
 refine RW.op (by kernel_rfl) (OK.call' en50 (by kernel_rfl) (hc16) ?_)
 intro X7 hX7
 refine fun _ _ hJ => hJ X7 ?_
 clear s
 intro I10 w35 s k39
 refine hX7 _ _ ?_
 have s' := St.back sa6 (i := 7) rfl s k39
 replace k39 := Kp.back sa6 (i := 7) rfl k39
 replace s := s'; clear s'
 have s' := St.back sa5 (i := 7) rfl s k39
 replace k39 := Kp.back sa5 (i := 7) rfl k39
 replace s := s'; clear s'
 have s' := St.back sa4 (i := 7) rfl s k39
 replace k39 := Kp.back sa4 (i := 7) rfl k39
 replace s := s'; clear s'
 obtain ⟨I11, s, k39⟩ : ∃ I : Nat → Prop, St w1 M I ((.sl (.slice A17 x9.length u17) 48 2 x9.length cl10) :: (.sl (.slice A15 n8 u15) 27 1 n8 cl8) :: (.sl (.slice A16 n9 u16) 3 1 n9 cl9) :: (.blk b11 (.cells #[.bool false, .slice none 0 0, .slice none 0 0, .slice none 0 0] 26 (0, 0))) :: (.blk b10 (.cells #[.bool x5, .slice A17 x9.length u17, .slice A15 n8 u15, .slice A16 n9 u16] 26 (0, 0))) :: (.blk b5 (.cells #[.bool x1, .slice A11 n4 u11, .slice A12 n5 u12, .slice A13 n6 u13] 26 (0, 0))) :: (.blk b4 (.cells #[.bool x5, .slice A17 x9.length u17, .slice A15 n8 u15, .slice A16 n9 u16] 26 (0, 0))) :: (.sl (.slice A11 n4 u11) 48 2 n4 cl4) :: (.sl (.slice A12 n5 u12) 27 1 n5 cl5) :: (.sl (.slice A13 n6 u13) 3 1 n6 cl6) :: (.blk b3 (.cells #[.bool false, .slice none 0 0, .slice none 0 0, .slice none 0 0] 26 (0, 0))) :: F) w35 ∧ Kp _ _ I _ := ⟨_, s, k39⟩
 replace rp1 := rp1.st k39
 replace rp2 := rp2.st k39
 replace rp3 := rp3.st k39
 replace rp7 := rp7.st k39
 replace rp5 := rp5.st k39
 replace rp6 := rp6.st k39
 replace kk := kk.trans k39
 refine RW.seg hT 1 [] [(6, .bool (decide (¬ (x20 = true))))] [.bool (decide (¬ (x20 = true)))] [.veq (.bool (!x20)) (.bool (decide (¬ (x20 = true))))] (by kernel_rfl) (not_b) ?_
 refine RW.nil ?_
 by_cases h3 : ¬ (x20 = true)
 have hf := iteT h3 hf
 refine WPK.condT (Eq.trans (b := .bool (decide (¬ (x20 = true)))) (by kernel_rfl) (bo_t h3)) ?_
 refine WPK.seq ?_
 refine WPK.region ?_
 refine RW.seg hT 1 [] [] [.agg #[.bool false, .slice none 0 0, .slice none 0 0, .slice none 0 0]] [] (by kernel_rfl) (trivial) ?_
 refine RW.op (by kernel_rfl) (OK.store hT (i := 3) (b := b11) (off := 0) (n := 4) (vs := [.bool false, .slice none 0 0, .slice none 0 0, .slice none 0 0]) (cs := [.bool false, .slice none 0 0, .slice none 0 0, .slice none 0 0]) (e := 26) s (by kernel_rfl) rfl rfl (flat_ok rfl) (Nat.le_of_ble_eq_true rfl) ?_)
 clear s
 rintro w36 s k40 -
 replace rp7 := rp7.st k40
 replace rp5 := rp5.st k40
 replace rp6 := rp6.st k40
 replace rp1 := rp1.st k40
 replace rp2 := rp2.st k40
 replace rp3 := rp3.st k40
 replace kk := kk.trans k40
 refine RW.seg hT 1 [] [] [.int .i64 100] [] (by kernel_rfl) (trivial) ?_
 refine RW.nil ?_
 refine WPK.ret (?_)
 refine Fin.of (rs := [.cell 2 26, .tmp 3]) hT [.agg #[.bool false, .slice none 0 0, .slice none 0 0, .slice none 0 0]] (.tuple #[.agg #[.bool false, .slice none 0 0, .slice none 0 0, .slice none 0 0], .int .i64 100]) [.cells ⟨b11, 0, none⟩ [.bool false, .slice none 0 0, .slice none 0 0, .slice none 0 0] 4] rfl (by kernel_rfl) (s.cells (i := 3) rfl rfl rfl) ?_
 refine hR2 _ _ ?_
 refine RW.seg hT 2 [] [] [.agg #[.bool false, .slice none 0 0, .slice none 0 0, .slice none 0 0], .int .i64 100] [] (by kernel_rfl) (trivial) ?_
 refine RW.op (by kernel_rfl) (OK.store hT (i := 10) (b := b3) (off := 0) (n := 4) (vs := [.bool false, .slice none 0 0, .slice none 0 0, .slice none 0 0]) (cs := [.bool false, .slice none 0 0, .slice none 0 0, .slice none 0 0]) (e := 26) s (by kernel_rfl) rfl rfl (flat_ok rfl) (Nat.le_of_ble_eq_true rfl) ?_)
 clear s
 rintro w37 s k41 -
 replace rp7 := rp7.st k41
 replace rp5 := rp5.st k41
 replace rp6 := rp6.st k41
 replace rp1 := rp1.st k41
 replace rp2 := rp2.st k41
 replace rp3 := rp3.st k41
 replace kk := kk.trans k41
 refine RW.seg hT 1 [] [] [.int .i64 100] [] (by kernel_rfl) (trivial) ?_
 refine RW.nil ?_
 refine WPK.ret (?_)
 obtain rfl := someS hf
 refine Fin.of (rs := [.cell 6 26, .tmp 7]) hT [.agg #[.bool false, .slice none 0 0, .slice none 0 0, .slice none 0 0]] (.tuple #[.agg #[.bool false, .slice none 0 0, .slice none 0 0, .slice none 0 0], .int .i64 100]) [.cells ⟨b3, 0, none⟩ [.bool false, .slice none 0 0, .slice none 0 0, .slice none 0 0] 4] rfl (by kernel_rfl) (s.cells (i := 10) rfl rfl rfl) ?_
 replace s := s.pushNil 48 2
 replace s := s.pushNil 27 1
 replace s := s.pushNil 3 1
 replace s := s.pick [2, 1, 0] 14 rfl
 exact fun X h => vc rfl (h I11 none 0 0 [] none 0 0 [] none 0 0 [] _ s kk rfl (RepL.nil (r := rp_T_api_Pair)) rfl (RepL.nil (r := (Rp.slice (Rp.int .u8)))) rfl (RepL.nil (r := (Rp.int .i64))))
 have hf := iteF h3 hf
 refine WPK.condF (Eq.trans (b := .bool (decide (¬ (x20 = true)))) (by kernel_rfl) (bo_f h3)) ?_
 refine WPK.skip ?_
 refine WPK.seq ?_
 refine WPK.region ?_
 refine RW.seg hT 1 [.agg #[.bool x5, .slice A17 x9.length u17, .slice A15 n8 u15, .slice A16 n9 u16]] [] [.agg #[.bool x5, .slice A17 x9.length u17, .slice A15 n8 u15, .slice A16 n9 u16]] [.cells ⟨b10, 0, none⟩ [.bool x5, .slice A17 x9.length u17, .slice A15 n8 u15, .slice A16 n9 u16] 4] (by kernel_rfl) (s.cells (i := 4) rfl rfl rfl) ?_
 refine RW.op (by kernel_rfl) (OK.store hT (i := 3) (b := b11) (off := 0) (n := 4) (vs := [.bool x5, .slice A17 x9.length u17, .slice A15 n8 u15, .slice A16 n9 u16]) (cs := [.bool false, .slice none 0 0, .slice none 0 0, .slice none 0 0]) (e := 26) s (by kernel_rfl) rfl rfl (flat_ok rfl) (Nat.le_of_ble_eq_true rfl) ?_)
 clear s
 rintro w38 s k42 -
 replace rp7 := rp7.st k42
 replace rp5 := rp5.st k42
 replace rp6 := rp6.st k42
 replace rp1 := rp1.st k42
 replace rp2 := rp2.st k42
 replace rp3 := rp3.st k42
 replace kk := kk.trans k42
 refine RW.seg hT 1 [] [] [.int .i64 0] [] (by kernel_rfl) (trivial) ?_
 refine RW.nil ?_
 refine WPK.ret (?_)
 refine Fin.of (rs := [.cell 2 26, .tmp 3]) hT [.agg #[.bool x5, .slice A17 x9.length u17, .slice A15 n8 u15, .slice A16 n9 u16]] (.tuple #[.agg #[.bool x5, .slice A17 x9.length u17, .slice A15 n8 u15, .slice A16 n9 u16], .int .i64 0]) [.cells ⟨b11, 0, none⟩ [.bool x5, .slice A17 x9.length u17, .slice A15 n8 u15, .slice A16 n9 u16] 4] rfl (by kernel_rfl) (s.cells (i := 3) rfl rfl rfl) ?_
 refine hR2 _ _ ?_
 refine RW.seg hT 2 [] [] [.agg #[.bool x5, .slice A17 x9.length u17, .slice A15 n8 u15, .slice A16 n9 u16], .int .i64 0] [] (by kernel_rfl) (trivial) ?_
 refine RW.op (by kernel_rfl) (OK.store hT (i := 10) (b := b3) (off := 0) (n := 4) (vs := [.bool x5, .slice A17 x9.length u17, .slice A15 n8 u15, .slice A16 n9 u16]) (cs := [.bool false, .slice none 0 0, .slice none 0 0, .slice none 0 0]) (e := 26) s (by kernel_rfl) rfl rfl (flat_ok rfl) (Nat.le_of_ble_eq_true rfl) ?_)
 clear s
 rintro w39 s k43 -
 replace rp7 := rp7.st k43
 replace rp5 := rp5.st k43
 replace rp6 := rp6.st k43
 replace rp1 := rp1.st k43
 replace rp2 := rp2.st k43
 replace rp3 := rp3.st k43
 replace kk := kk.trans k43
 refine RW.seg hT 1 [] [] [.int .i64 0] [] (by kernel_rfl) (trivial) ?_
 refine RW.nil ?_
 refine WPK.ret (?_)
 obtain rfl := someS hf
 refine Fin.of (rs := [.cell 6 26, .tmp 7]) hT [.agg #[.bool x5, .slice A17 x9.length u17, .slice A15 n8 u15, .slice A16 n9 u16]] (.tuple #[.agg #[.bool x5, .slice A17 x9.length u17, .slice A15 n8 u15, .slice A16 n9 u16], .int .i64 0]) [.cells ⟨b3, 0, none⟩ [.bool x5, .slice A17 x9.length u17, .slice A15 n8 u15, .slice A16 n9 u16] 4] rfl (by kernel_rfl) (s.cells (i := 10) rfl rfl rfl) ?_
 replace s := s.pick [0, 1, 2] 11 rfl
 exact fun X h => vc rfl (h I11 A17 x9.length u17 cl10 A15 n8 u15 cl8 A16 n9 u16 cl9 _ s kk rfl rp7 hn5 rp5 hn6 rp6)
 have e4S2 := e4
 have e5S2 := e5
 have e6S2 := e6
 have e7S2 := e7
 have e1S2 := e1
 have e2S2 := e2
 have e3S2 := e3
 have kS2 : Kp I1 w5 I1 w5 := Kp.refl
 refine WPK.drawM (fun w' => ∃ I' : Nat → Prop, St w1 M I' ((.blk b3 (.cells #[.bool false, .slice none 0 0, .slice none 0 0, .slice none 0 0] 26 (0, 0))) :: (.blk b2 (.cells #[.bool p2.Leaf, .slice A5 p2.Pairs.length u5, .slice A6 p2.Keys.length u6, .slice A7 p2.Kids.length u7] 26 (0, 0))) :: (.blk b1 (.cells #[.bool p0.Leaf, .slice A1 p0.Pairs.length u1, .slice A2 p0.Keys.length u2, .slice A3 p0.Kids.length u3] 26 (0, 0))) :: F) w' ∧ Kp I1 w5 I' w') 6 [0, 1, 0, 7, 0, 0, 63, 127] (by kernel_rfl) (by kernel_rfl) ?_
 intro ht2 w40 hd2
 have k44 := Kp.dr s hd2
 replace s := s.dr hd2
 replace e4 := e4.st k44
 replace e5 := e5.st k44
 replace e6 := e6.st k44
 replace e7 := e7.st k44
 replace e1 := e1.st k44
 replace e2 := e2.st k44
 replace e3 := e3.st k44
 replace kk := kk.trans k44
 replace kS2 := kS2.trans k44
 refine RD.segM hT ht2 (by kernel_rfl) [0, 2] [.agg #[.bool p0.Leaf, .slice A1 p0.Pairs.length u1, .slice A2 p0.Keys.length u2, .slice A3 p0.Kids.length u3], .agg #[.bool p2.Leaf, .slice A5 p2.Pairs.length u5, .slice A6 p2.Keys.length u6, .slice A7 p2.Kids.length u7]] [] [.agg #[.bool p0.Leaf, .slice A1 p0.Pairs.length u1, .slice A2 p0.Keys.length u2, .slice A3 p0.Kids.length u3], .agg #[.bool p2.Leaf, .slice A5 p2.Pairs.length u5, .slice A6 p2.Keys.length u6, .slice A7 p2.Kids.length u7]] [.cells ⟨b1, 0, none⟩ [.bool p0.Leaf, .slice A1 p0.Pairs.length u1, .slice A2 p0.Keys.length u2, .slice A3 p0.Kids.length u3] 4, .cells ⟨b2, 0, none⟩ [.bool p2.Leaf, .slice A5 p2.Pairs.length u5, .slice A6 p2.Keys.length u6, .slice A7 p2.Kids.length u7] 4] (by kernel_rfl) (by rintro w' ⟨I', s, k⟩; have e4 := e4S2.st k; have e5 := e5S2.st k; have e6 := e6S2.st k; have e7 := e7S2.st k; have e1 := e1S2.st k; have e2 := e2S2.st k; have e3 := e3S2.st k; exact ⟨s.cells (i := 2) rfl rfl rfl, s.cells (i := 1) rfl rfl rfl⟩) ⟨_, s.pick [0, 1, 2] 3 rfl, kS2⟩ ?_
 obtain ⟨x21, hx12, hf⟩ := bindS hf
 refine RD.ways [1, 4, 5] (by kernel_rfl) (List.forall_mem_cons.2 ⟨?_, List.forall_mem_cons.2 ⟨?_, List.forall_mem_cons.2 ⟨?_, fun _ h => nomatch h⟩⟩⟩)
 refine RWay.op rfl (by kernel_rfl) (OK.call' en25 (by kernel_rfl) (c25 (F := (.blk b3 (.cells #[.bool false, .slice none 0 0, .slice none 0 0, .slice none 0 0] 26 (0, 0))) :: (.blk b2 (.cells #[.bool p2.Leaf, .slice A5 p2.Pairs.length u5, .slice A6 p2.Keys.length u6, .slice A7 p2.Kids.length u7] 26 (0, 0))) :: (.blk b1 (.cells #[.bool p0.Leaf, .slice A1 p0.Pairs.length u1, .slice A2 p0.Keys.length u2, .slice A3 p0.Kids.length u3] 26 (0, 0))) :: F) p0 A1 u1 A2 u2 A3 u3 hc1 e1 hc2 e2 hc3 e3 s hx12) ?_)
 intro X8 hX8
 refine fun _ _ hJ => hJ X8 ?_
 clear s
 intro I12 A28 n12 u28 cl21 A29 n13 u29 cl22 A30 n14 u30 cl23 w41 s k45 hn9 rp20 hn10 rp21 hn11 rp22
 refine hX8 _ _ ?_
 replace e4 := e4.st k45
 replace e1 := e1.st k45
 replace e2 := e2.st k45
 replace e3 := e3.st k45
 replace e5 := e5.st k45
 replace e6 := e6.st k45
 replace e7 := e7.st k45
 replace kk := kk.trans k45
 replace kS2 := kS2.trans k45
 refine ⟨fun _ => ⟨_, s.pick [3, 4, 5] 6 rfl, kS2⟩, RD.fold ?_⟩
 obtain ⟨x22, hx13, hf⟩ := bindS hf
 refine RD.ways [3, 4, 5] (by kernel_rfl) (List.forall_mem_cons.2 ⟨?_, List.forall_mem_cons.2 ⟨?_, List.forall_mem_cons.2 ⟨?_, fun _ h => nomatch h⟩⟩⟩)
 refine RWay.op rfl (by kernel_rfl) (OK.call' en25 (by kernel_rfl) (c25 (F := (.sl (.slice A28 n12 u28) 48 2 n12 cl21) :: (.sl (.slice A29 n13 u29) 27 1 n13 cl22) :: (.sl (.slice A30 n14 u30) 3 1 n14 cl23) :: (.blk b3 (.cells #[.bool false, .slice none 0 0, .slice none 0 0, .slice none 0 0] 26 (0, 0))) :: (.blk b2 (.cells #[.bool p2.Leaf, .slice A5 p2.Pairs.length u5, .slice A6 p2.Keys.length u6, .slice A7 p2.Kids.length u7] 26 (0, 0))) :: (.blk b1 (.cells #[.bool p0.Leaf, .slice A1 p0.Pairs.length u1, .slice A2 p0.Keys.length u2, .slice A3 p0.Kids.length u3] 26 (0, 0))) :: F) p2 A5 u5 A6 u6 A7 u7 hc5 e5 hc6 e6 hc7 e7 s hx13) ?_)
 intro X9 hX9
 refine fun _ _ hJ => hJ X9 ?_
 clear s
 intro I13 A31 n15 u31 cl24 A32 n16 u32 cl25 A33 n17 u33 cl26 w42 s k46 hn12 rp23 hn13 rp24 hn14 rp25
 refine hX9 _ _ ?_
 replace e4 := e4.st k46
 replace e1 := e1.st k46
 replace e2 := e2.st k46
 replace e3 := e3.st k46
 replace e5 := e5.st k46
 replace e6 := e6.st k46
 replace e7 := e7.st k46
 replace rp20 := rp20.st k46
 replace rp21 := rp21.st k46
 replace rp22 := rp22.st k46
 replace kk := kk.trans k46
 replace kS2 := kS2.trans k46
 refine ⟨fun _ => ⟨_, s.pick [6, 7, 8] 9 rfl, kS2⟩, RD.fold ?_⟩
 refine RD.ways [4, 5] (by kernel_rfl) (List.forall_mem_cons.2 ⟨?_, List.forall_mem_cons.2 ⟨?_, fun _ h => nomatch h⟩⟩)
 refine RWay.op rfl (by kernel_rfl) (OK.new hT (f := fun b => .pointer (some ⟨b, 0, none⟩)) (cs := [.bool false, .slice none 0 0, .slice none 0 0, .slice none 0 0]) (e := 26) (c := .tt) s (by kernel_rfl) trivial ?_)
 clear s
 rintro w43 b12 s k47 -
 replace e4 := e4.st k47
 replace e1 := e1.st k47
 replace e2 := e2.st k47
 replace e3 := e3.st k47
 replace e5 := e5.st k47
 replace e6 := e6.st k47
 replace e7 := e7.st k47
 replace rp23 := rp23.st k47
 replace rp24 := rp24.st k47
 replace rp25 := rp25.st k47
 replace rp20 := rp20.st k47
 replace rp21 := rp21.st k47
 replace rp22 := rp22.st k47
 replace kk := kk.trans k47
 replace kS2 := kS2.trans k47
 refine ⟨fun _ => ⟨_, s.pick [7, 8, 9] 10 rfl, kS2⟩, RD.fold ?_⟩
 refine RD.op (i := 5) rfl (by kernel_rfl) (by kernel_rfl) (OK.new hT (f := fun b => .pointer (some ⟨b, 0, none⟩)) (cs := [.bool false, .slice none 0 0, .slice none 0 0, .slice none 0 0]) (e := 26) (c := .tt) s (by kernel_rfl) trivial ?_)
 clear s
 rintro w44 b13 s k48 -
 replace e4 := e4.st k48
 replace e1 := e1.st k48
 replace e2 := e2.st k48
 replace e3 := e3.st k48
 replace e5 := e5.st k48
 replace e6 := e6.st k48
 replace e7 := e7.st k48
 replace rp23 := rp23.st k48
 replace rp24 := rp24.st k48
 replace rp25 := rp25.st k48
 replace rp20 := rp20.st k48
 replace rp21 := rp21.st k48
 replace rp22 := rp22.st k48
 replace kk := kk.trans k48
 replace kS2 := kS2.trans k48
 refine ⟨fun _ => ⟨_, s.pick [8, 9, 10] 11 rfl, kS2⟩, RD.fold ?_⟩
 refine RD.op (i := 6) rfl (by kernel_rfl) (by kernel_rfl) (OK.store hT (i := 1) (b := b12) (off := 0) (n := 4) (vs := [.bool x21.Leaf, .slice A28 n12 u28, .slice A29 n13 u29, .slice A30 n14 u30]) (cs := [.bool false, .slice none 0 0, .slice none 0 0, .slice none 0 0]) (e := 26) s (by kernel_rfl) rfl rfl (flat_ok rfl) (Nat.le_of_ble_eq_true rfl) ?_)
 clear s
 rintro w45 s k49 -
 replace e4 := e4.st k49
 replace e1 := e1.st k49
 replace e2 := e2.st k49
 replace e3 := e3.st k49
 replace e5 := e5.st k49
 replace e6 := e6.st k49
 replace e7 := e7.st k49
 replace rp23 := rp23.st k49
 replace rp24 := rp24.st k49
 replace rp25 := rp25.st k49
 replace rp20 := rp20.st k49
 replace rp21 := rp21.st k49
 replace rp22 := rp22.st k49
 replace kk := kk.trans k49
 replace kS2 := kS2.trans k49
 refine ⟨fun h => absurd h (by decide), RD.fold ?_⟩
 refine RD.op (i := 7) rfl (by kernel_rfl) (by kernel_rfl) (OK.store hT (i := 0) (b := b13) (off := 0) (n := 4) (vs := [.bool x22.Leaf, .slice A31 n15 u31, .slice A32 n16 u32, .slice A33 n17 u33]) (cs := [.bool false, .slice none 0 0, .slice none 0 0, .slice none 0 0]) (e := 26) s (by kernel_rfl) rfl rfl (flat_ok rfl) (Nat.le_of_ble_eq_true rfl) ?_)
 clear s
 rintro w46 s k50 -
 replace e4 := e4.st k50
 replace e1 := e1.st k50
 replace e2 := e2.st k50
 replace e3 := e3.st k50
 replace e5 := e5.st k50
 replace e6 := e6.st k50
 replace e7 := e7.st k50
 replace rp23 := rp23.st k50
 replace rp24 := rp24.st k50
 replace rp25 := rp25.st k50
 replace rp20 := rp20.st k50
 replace rp21 := rp21.st k50
 replace rp22 := rp22.st k50
 replace kk := kk.trans k50
 replace kS2 := kS2.trans k50
 refine ⟨fun h => absurd h (by decide), RD.fold ?_⟩
 refine RD.done (by kernel_rfl) ?_
 replace s := s.pick [0, 1, 2, 3, 4, 5, 6, 7, 8] 11 rfl
 exact fun X h => kc (by kernel_rfl) rfl (h I13 x22.Leaf x22.Pairs x22.Keys x22.Kids x21.Leaf x21.Pairs x21.Keys x21.Kids b12 b13 A31 n15 u31 cl24 A32 n16 u32 cl25 A33 n17 u33 cl26 A28 n12 u28 cl21 A29 n13 u29 cl22 A30 n14 u30 cl23 _ hf s kk e4 hn12 rp23 hn13 rp24 hn14 rp25 hn9 rp20 hn10 rp21 hn11 rp22)
 refine RWay.op rfl (by kernel_rfl) (OK.new hT (f := fun b => .pointer (some ⟨b, 0, none⟩)) (cs := [.bool false, .slice none 0 0, .slice none 0 0, .slice none 0 0]) (e := 26) (c := .tt) s (by kernel_rfl) trivial ?_)
 clear s
 rintro w44 b13 s k48 -
 replace e4 := e4.st k48
 replace e1 := e1.st k48
 replace e2 := e2.st k48
 replace e3 := e3.st k48
 replace e5 := e5.st k48
 replace e6 := e6.st k48
 replace e7 := e7.st k48
 replace rp23 := rp23.st k48
 replace rp24 := rp24.st k48
 replace rp25 := rp25.st k48
 replace rp20 := rp20.st k48
 replace rp21 := rp21.st k48
 replace rp22 := rp22.st k48
 replace kk := kk.trans k48
 replace kS2 := kS2.trans k48
 refine ⟨fun _ => ⟨_, s.pick [7, 8, 9] 10 rfl, kS2⟩, RD.fold ?_⟩
 refine RD.op (i := 4) rfl (by kernel_rfl) (by kernel_rfl) (OK.new hT (f := fun b => .pointer (some ⟨b, 0, none⟩)) (cs := [.bool false, .slice none 0 0, .slice none 0 0, .slice none 0 0]) (e := 26) (c := .tt) s (by kernel_rfl) trivial ?_)
 clear s
 rintro w43 b12 s k47 -
 replace e4 := e4.st k47
 replace e1 := e1.st k47
 replace e2 := e2.st k47
 replace e3 := e3.st k47
 replace e5 := e5.st k47
 replace e6 := e6.st k47
 replace e7 := e7.st k47
 replace rp23 := rp23.st k47
 replace rp24 := rp24.st k47
 replace rp25 := rp25.st k47
 replace rp20 := rp20.st k47
 replace rp21 := rp21.st k47
 replace rp22 := rp22.st k47
 replace kk := kk.trans k47
 replace kS2 := kS2.trans k47
 refine ⟨fun _ => ⟨_, s.pick [8, 9, 10] 11 rfl, kS2⟩, RD.fold ?_⟩
 refine RD.op (i := 6) rfl (by kernel_rfl) (by kernel_rfl) (OK.store hT (i := 0) (b := b12) (off := 0) (n := 4) (vs := [.bool x21.Leaf, .slice A28 n12 u28, .slice A29 n13 u29, .slice A30 n14 u30]) (cs := [.bool false, .slice none 0 0, .slice none 0 0, .slice none 0 0]) (e := 26) s (by kernel_rfl) rfl rfl (flat_ok rfl) (Nat.le_of_ble_eq_true rfl) ?_)
 clear s
 rintro w47 s k51 -
 replace e4 := e4.st k51
 replace e1 := e1.st k51
 replace e2 := e2.st k51
 replace e3 := e3.st k51
 replace e5 := e5.st k51
 replace e6 := e6.st k51
 replace e7 := e7.st k51
 replace rp23 := rp23.st k51
 replace rp24 := rp24.st k51
 replace rp25 := rp25.st k51
 replace rp20 := rp20.st k51
 replace rp21 := rp21.st k51
 replace rp22 := rp22.st k51
 replace kk := kk.trans k51
 replace kS2 := kS2.trans k51
 refine ⟨fun h => absurd h (by decide), RD.fold ?_⟩
 refine RD.op (i := 7) rfl (by kernel_rfl) (by kernel_rfl) (OK.store hT (i := 1) (b := b13) (off := 0) (n := 4) (vs := [.bool x22.Leaf, .slice A31 n15 u31, .slice A32 n16 u32, .slice A33 n17 u33]) (cs := [.bool false, .slice none 0 0, .slice none 0 0, .slice none 0 0]) (e := 26) s (by kernel_rfl) rfl rfl (flat_ok rfl) (Nat.le_of_ble_eq_true rfl) ?_)
 clear s
 rintro w48 s k52 -
 replace e4 := e4.st k52
 replace e1 := e1.st k52
 replace e2 := e2.st k52
 replace e3 := e3.st k52
 replace e5 := e5.st k52
 replace e6 := e6.st k52
 replace e7 := e7.st k52
 replace rp23 := rp23.st k52
 replace rp24 := rp24.st k52
 replace rp25 := rp25.st k52
 replace rp20 := rp20.st k52
 replace rp21 := rp21.st k52
 replace rp22 := rp22.st k52
 replace kk := kk.trans k52
 replace kS2 := kS2.trans k52
 refine ⟨fun h => absurd h (by decide), RD.fold ?_⟩
 refine RD.done (by kernel_rfl) ?_
 replace s := s.pick [1, 0, 2, 3, 4, 5, 6, 7, 8] 11 rfl
 exact fun X h => kc (by kernel_rfl) rfl (h I13 x22.Leaf x22.Pairs x22.Keys x22.Kids x21.Leaf x21.Pairs x21.Keys x21.Kids b12 b13 A31 n15 u31 cl24 A32 n16 u32 cl25 A33 n17 u33 cl26 A28 n12 u28 cl21 A29 n13 u29 cl22 A30 n14 u30 cl23 _ hf s kk e4 hn12 rp23 hn13 rp24 hn14 rp25 hn9 rp20 hn10 rp21 hn11 rp22)
 refine RWay.op rfl (by kernel_rfl) (OK.new hT (f := fun b => .pointer (some ⟨b, 0, none⟩)) (cs := [.bool false, .slice none 0 0, .slice none 0 0, .slice none 0 0]) (e := 26) (c := .tt) s (by kernel_rfl) trivial ?_)
 clear s
 rintro w43 b12 s k47 -
 replace e4 := e4.st k47
 replace e1 := e1.st k47
 replace e2 := e2.st k47
 replace e3 := e3.st k47
 replace e5 := e5.st k47
 replace e6 := e6.st k47
 replace e7 := e7.st k47
 replace rp20 := rp20.st k47
 replace rp21 := rp21.st k47
 replace rp22 := rp22.st k47
 replace kk := kk.trans k47
 replace kS2 := kS2.trans k47
 refine ⟨fun _ => ⟨_, s.pick [4, 5, 6] 7 rfl, kS2⟩, RD.fold ?_⟩
 refine RD.ways [3, 5] (by kernel_rfl) (List.forall_mem_cons.2 ⟨?_, List.forall_mem_cons.2 ⟨?_, fun _ h => nomatch h⟩⟩)
 refine RWay.op rfl (by kernel_rfl) (OK.call' en25 (by kernel_rfl) (c25 (F := (.blk b12 (.cells #[.bool false, .slice none 0 0, .slice none 0 0, .slice none 0 0] 26 (0, 0))) :: (.sl (.slice A28 n12 u28) 48 2 n12 cl21) :: (.sl (.slice A29 n13 u29) 27 1 n13 cl22) :: (.sl (.slice A30 n14 u30) 3 1 n14 cl23) :: (.blk b3 (.cells #[.bool false, .slice none 0 0, .slice none 0 0, .slice none 0 0] 26 (0, 0))) :: (.blk b2 (.cells #[.bool p2.Leaf, .slice A5 p2.Pairs.length u5, .slice A6 p2.Keys.length u6, .slice A7 p2.Kids.length u7] 26 (0, 0))) :: (.blk b1 (.cells #[.bool p0.Leaf, .slice A1 p0.Pairs.length u1, .slice A2 p0.Keys.length u2, .slice A3 p0.Kids.length u3] 26 (0, 0))) :: F) p2 A5 u5 A6 u6 A7 u7 hc5 e5 hc6 e6 hc7 e7 s hx13) ?_)
 intro X10 hX10
 refine fun _ _ hJ => hJ X10 ?_
 clear s
 intro I14 A34 n18 u34 cl27 A35 n19 u35 cl28 A36 n20 u36 cl29 w49 s k53 hn15 rp26 hn16 rp27 hn17 rp28
 refine hX10 _ _ ?_
 replace e4 := e4.st k53
 replace e1 := e1.st k53
 replace e2 := e2.st k53
 replace e3 := e3.st k53
 replace e5 := e5.st k53
 replace e6 := e6.st k53
 replace e7 := e7.st k53
 replace rp20 := rp20.st k53
 replace rp21 := rp21.st k53
 replace rp22 := rp22.st k53
 replace kk := kk.trans k53
 replace kS2 := kS2.trans k53
 refine ⟨fun _ => ⟨_, s.pick [7, 8, 9] 10 rfl, kS2⟩, RD.fold ?_⟩
 refine RD.op (i := 5) rfl (by kernel_rfl) (by kernel_rfl) (OK.new hT (f := fun b => .pointer (some ⟨b, 0, none⟩)) (cs := [.bool false, .slice none 0 0, .slice none 0 0, .slice none 0 0]) (e := 26) (c := .tt) s (by kernel_rfl) trivial ?_)
 clear s
 rintro w44 b13 s k48 -
 replace e4 := e4.st k48
 replace e1 := e1.st k48
 replace e2 := e2.st k48
 replace e3 := e3.st k48
 replace e5 := e5.st k48
 replace e6 := e6.st k48
 replace e7 := e7.st k48
 replace rp26 := rp26.st k48
 replace rp27 := rp27.st k48
 replace rp28 := rp28.st k48
 replace rp20 := rp20.st k48
 replace rp21 := rp21.st k48
 replace rp22 := rp22.st k48
 replace kk := kk.trans k48
 replace kS2 := kS2.trans k48
 refine ⟨fun _ => ⟨_, s.pick [8, 9, 10] 11 rfl, kS2⟩, RD.fold ?_⟩
 refine RD.op (i := 6) rfl (by kernel_rfl) (by kernel_rfl) (OK.store hT (i := 4) (b := b12) (off := 0) (n := 4) (vs := [.bool x21.Leaf, .slice A28 n12 u28, .slice A29 n13 u29, .slice A30 n14 u30]) (cs := [.bool false, .slice none 0 0, .slice none 0 0, .slice none 0 0]) (e := 26) s (by kernel_rfl) rfl rfl (flat_ok rfl) (Nat.le_of_ble_eq_true rfl) ?_)
 clear s
 rintro w50 s k54 -
 replace e4 := e4.st k54
 replace e1 := e1.st k54
 replace e2 := e2.st k54
 replace e3 := e3.st k54
 replace e5 := e5.st k54
 replace e6 := e6.st k54
 replace e7 := e7.st k54
 replace rp26 := rp26.st k54
 replace rp27 := rp27.st k54
 replace rp28 := rp28.st k54
 replace rp20 := rp20.st k54
 replace rp21 := rp21.st k54
 replace rp22 := rp22.st k54
 replace kk := kk.trans k54
 replace kS2 := kS2.trans k54
 refine ⟨fun h => absurd h (by decide), RD.fold ?_⟩
 refine RD.op (i := 7) rfl (by kernel_rfl) (by kernel_rfl) (OK.store hT (i := 0) (b := b13) (off := 0) (n := 4) (vs := [.bool x22.Leaf, .slice A34 n18 u34, .slice A35 n19 u35, .slice A36 n20 u36]) (cs := [.bool false, .slice none 0 0, .slice none 0 0, .slice none 0 0]) (e := 26) s (by kernel_rfl) rfl rfl (flat_ok rfl) (Nat.le_of_ble_eq_true rfl) ?_)
 clear s
 rintro w51 s k55 -
 replace e4 := e4.st k55
 replace e1 := e1.st k55
 replace e2 := e2.st k55
 replace e3 := e3.st k55
 replace e5 := e5.st k55
 replace e6 := e6.st k55
 replace e7 := e7.st k55
 replace rp26 := rp26.st k55
 replace rp27 := rp27.st k55
 replace rp28 := rp28.st k55
 replace rp20 := rp20.st k55
 replace rp21 := rp21.st k55
 replace rp22 := rp22.st k55
 replace kk := kk.trans k55
 replace kS2 := kS2.trans k55
 refine ⟨fun h => absurd h (by decide), RD.fold ?_⟩
 refine RD.done (by kernel_rfl) ?_
 replace s := s.pick [0, 4, 1, 2, 3, 5, 6, 7, 8] 11 rfl
 exact fun X h => kc (by kernel_rfl) rfl (h I14 x22.Leaf x22.Pairs x22.Keys x22.Kids x21.Leaf x21.Pairs x21.Keys x21.Kids b12 b13 A34 n18 u34 cl27 A35 n19 u35 cl28 A36 n20 u36 cl29 A28 n12 u28 cl21 A29 n13 u29 cl22 A30 n14 u30 cl23 _ hf s kk e4 hn15 rp26 hn16 rp27 hn17 rp28 hn9 rp20 hn10 rp21 hn11 rp22)
 refine RWay.op rfl (by kernel_rfl) (OK.new hT (f := fun b => .pointer (some ⟨b, 0, none⟩)) (cs := [.bool false, .slice none 0 0, .slice none 0 0, .slice none 0 0]) (e := 26) (c := .tt) s (by kernel_rfl) trivial ?_)
 clear s
 rintro w44 b13 s k48 -
 replace e4 := e4.st k48
 replace e1 := e1.st k48
 replace e2 := e2.st k48
 replace e3 := e3.st k48
 replace e5 := e5.st k48
 replace e6 := e6.st k48
 replace e7 := e7.st k48
 replace rp20 := rp20.st k48
 replace rp21 := rp21.st k48
 replace rp22 := rp22.st k48
 replace kk := kk.trans k48
 replace kS2 := kS2.trans k48
 refine ⟨fun _ => ⟨_, s.pick [5, 6, 7] 8 rfl, kS2⟩, RD.fold ?_⟩
 refine RD.op (i := 3) rfl (by kernel_rfl) (by kernel_rfl) (OK.call' en25 (by kernel_rfl) (c25 (F := (.blk b13 (.cells #[.bool false, .slice none 0 0, .slice none 0 0, .slice none 0 0] 26 (0, 0))) :: (.blk b12 (.cells #[.bool false, .slice none 0 0, .slice none 0 0, .slice none 0 0] 26 (0, 0))) :: (.sl (.slice A28 n12 u28) 48 2 n12 cl21) :: (.sl (.slice A29 n13 u29) 27 1 n13 cl22) :: (.sl (.slice A30 n14 u30) 3 1 n14 cl23) :: (.blk b3 (.cells #[.bool false, .slice none 0 0, .slice none 0 0, .slice none 0 0] 26 (0, 0))) :: (.blk b2 (.cells #[.bool p2.Leaf, .slice A5 p2.Pairs.length u5, .slice A6 p2.Keys.length u6, .slice A7 p2.Kids.length u7] 26 (0, 0))) :: (.blk b1 (.cells #[.bool p0.Leaf, .slice A1 p0.Pairs.length u1, .slice A2 p0.Keys.length u2, .slice A3 p0.Kids.length u3] 26 (0, 0))) :: F) p2 A5 u5 A6 u6 A7 u7 hc5 e5 hc6 e6 hc7 e7 s hx13) ?_)
 intro X11 hX11
 refine fun _ _ hJ => hJ X11 ?_
 clear s
 intro I15 A37 n21 u37 cl30 A38 n22 u38 cl31 A39 n23 u39 cl32 w52 s k56 hn18 rp29 hn19 rp30 hn20 rp31
 refine hX11 _ _ ?_
 replace e4 := e4.st k56
 replace e1 := e1.st k56
 replace e2 := e2.st k56
 replace e3 := e3.st k56
 replace e5 := e5.st k56
 replace e6 := e6.st k56
 replace e7 := e7.st k56
 replace rp20 := rp20.st k56
 replace rp21 := rp21.st k56
 replace rp22 := rp22.st k56
 replace kk := kk.trans k56
 replace kS2 := kS2.trans k56
 refine ⟨fun _ => ⟨_, s.pick [8, 9, 10] 11 rfl, kS2⟩, RD.fold ?_⟩
 refine RD.op (i := 6) rfl (by kernel_rfl) (by kernel_rfl) (OK.store hT (i := 4) (b := b12) (off := 0) (n := 4) (vs := [.bool x21.Leaf, .slice A28 n12 u28, .slice A29 n13 u29, .slice A30 n14 u30]) (cs := [.bool false, .slice none 0 0, .slice none 0 0, .slice none 0 0]) (e := 26) s (by kernel_rfl) rfl rfl (flat_ok rfl) (Nat.le_of_ble_eq_true rfl) ?_)
 clear s
 rintro w53 s k57 -
 replace e4 := e4.st k57
 replace e1 := e1.st k57
 replace e2 := e2.st k57
 replace e3 := e3.st k57
 replace e5 := e5.st k57
 replace e6 := e6.st k57
 replace e7 := e7.st k57
 replace rp29 := rp29.st k57
 replace rp30 := rp30.st k57
 replace rp31 := rp31.st k57
 replace rp20 := rp20.st k57
 replace rp21 := rp21.st k57
 replace rp22 := rp22.st k57
 replace kk := kk.trans k57
 replace kS2 := kS2.trans k57
 refine ⟨fun h => absurd h (by decide), RD.fold ?_⟩
 refine RD.op (i := 7) rfl (by kernel_rfl) (by kernel_rfl) (OK.store hT (i := 3) (b := b13) (off := 0) (n := 4) (vs := [.bool x22.Leaf, .slice A37 n21 u37, .slice A38 n22 u38, .slice A39 n23 u39]) (cs := [.bool false, .slice none 0 0, .slice none 0 0, .slice none 0 0]) (e := 26) s (by kernel_rfl) rfl rfl (flat_ok rfl) (Nat.le_of_ble_eq_true rfl) ?_)
 clear s
 rintro w54 s k58 -
 replace e4 := e4.st k58
 replace e1 := e1.st k58
 replace e2 := e2.st k58
 replace e3 := e3.st k58
 replace e5 := e5.st k58
 replace e6 := e6.st k58
 replace e7 := e7.st k58
 replace rp29 := rp29.st k58
 replace rp30 := rp30.st k58
 replace rp31 := rp31.st k58
 replace rp20 := rp20.st k58
 replace rp21 := rp21.st k58
 replace rp22 := rp22.st k58
 replace kk := kk.trans k58
 replace kS2 := kS2.trans k58
 refine ⟨fun h => absurd h (by decide), RD.fold ?_⟩
 refine RD.done (by kernel_rfl) ?_
 replace s := s.pick [3, 4, 0, 1, 2, 5, 6, 7, 8] 11 rfl
 exact fun X h => kc (by kernel_rfl) rfl (h I15 x22.Leaf x22.Pairs x22.Keys x22.Kids x21.Leaf x21.Pairs x21.Keys x21.Kids b12 b13 A37 n21 u37 cl30 A38 n22 u38 cl31 A39 n23 u39 cl32 A28 n12 u28 cl21 A29 n13 u29 cl22 A30 n14 u30 cl23 _ hf s kk e4 hn18 rp29 hn19 rp30 hn20 rp31 hn9 rp20 hn10 rp21 hn11 rp22)
 refine RWay.op rfl (by kernel_rfl) (OK.new hT (f := fun b => .pointer (some ⟨b, 0, none⟩)) (cs := [.bool false, .slice none 0 0, .slice none 0 0, .slice none 0 0]) (e := 26) (c := .tt) s (by kernel_rfl) trivial ?_)
 clear s
 rintro w44 b13 s k48 -
 replace e4 := e4.st k48
 replace e1 := e1.st k48
 replace e2 := e2.st k48
 replace e3 := e3.st k48
 replace e5 := e5.st k48
 replace e6 := e6.st k48
 replace e7 := e7.st k48
 replace rp20 := rp20.st k48
 replace rp21 := rp21.st k48
 replace rp22 := rp22.st k48
 replace kk := kk.trans k48
 replace kS2 := kS2.trans k48
 refine ⟨fun _ => ⟨_, s.pick [4, 5, 6] 7 rfl, kS2⟩, RD.fold ?_⟩
 refine RD.ways [3, 4] (by kernel_rfl) (List.forall_mem_cons.2 ⟨?_, List.forall_mem_cons.2 ⟨?_, fun _ h => nomatch h⟩⟩)
 refine RWay.op rfl (by kernel_rfl) (OK.call' en25 (by kernel_rfl) (c25 (F := (.blk b13 (.cells #[.bool false, .slice none 0 0, .slice none 0 0, .slice none 0 0] 26 (0, 0))) :: (.sl (.slice A28 n12 u28) 48 2 n12 cl21) :: (.sl (.slice A29 n13 u29) 27 1 n13 cl22) :: (.sl (.slice A30 n14 u30) 3 1 n14 cl23) :: (.blk b3 (.cells #[.bool false, .slice none 0 0, .slice none 0 0, .slice none 0 0] 26 (0, 0))) :: (.blk b2 (.cells #[.bool p2.Leaf, .slice A5 p2.Pairs.length u5, .slice A6 p2.Keys.length u6, .slice A7 p2.Kids.length u7] 26 (0, 0))) :: (.blk b1 (.cells #[.bool p0.Leaf, .slice A1 p0.Pairs.length u1, .slice A2 p0.Keys.length u2, .slice A3 p0.Kids.length u3] 26 (0, 0))) :: F) p2 A5 u5 A6 u6 A7 u7 hc5 e5 hc6 e6 hc7 e7 s hx13) ?_)
 intro X12 hX12
 refine fun _ _ hJ => hJ X12 ?_
 clear s
 intro I16 A40 n24 u40 cl33 A41 n25 u41 cl34 A42 n26 u42 cl35 w55 s k59 hn21 rp32 hn22 rp33 hn23 rp34
 refine hX12 _ _ ?_
 replace e4 := e4.st k59
 replace e1 := e1.st k59
 replace e2 := e2.st k59
 replace e3 := e3.st k59
 replace e5 := e5.st k59
 replace e6 := e6.st k59
 replace e7 := e7.st k59
 replace rp20 := rp20.st k59
 replace rp21 := rp21.st k59
 replace rp22 := rp22.st k59
 replace kk := kk.trans k59
 replace kS2 := kS2.trans k59
 refine ⟨fun _ => ⟨_, s.pick [7, 8, 9] 10 rfl, kS2⟩, RD.fold ?_⟩
 refine RD.op (i := 4) rfl (by kernel_rfl) (by kernel_rfl) (OK.new hT (f := fun b => .pointer (some ⟨b, 0, none⟩)) (cs := [.bool false, .slice none 0 0, .slice none 0 0, .slice none 0 0]) (e := 26) (c := .tt) s (by kernel_rfl) trivial ?_)
 clear s
 rintro w43 b12 s k47 -
 replace e4 := e4.st k47
 replace e1 := e1.st k47
 replace e2 := e2.st k47
 replace e3 := e3.st k47
 replace e5 := e5.st k47
 replace e6 := e6.st k47
 replace e7 := e7.st k47
 replace rp32 := rp32.st k47
 replace rp33 := rp33.st k47
 replace rp34 := rp34.st k47
 replace rp20 := rp20.st k47
 replace rp21 := rp21.st k47
 replace rp22 := rp22.st k47
 replace kk := kk.trans k47
 replace kS2 := kS2.trans k47
 refine ⟨fun _ => ⟨_, s.pick [8, 9, 10] 11 rfl, kS2⟩, RD.fold ?_⟩
 refine RD.op (i := 6) rfl (by kernel_rfl) (by kernel_rfl) (OK.store hT (i := 0) (b := b12) (off := 0) (n := 4) (vs := [.bool x21.Leaf, .slice A28 n12 u28, .slice A29 n13 u29, .slice A30 n14 u30]) (cs := [.bool false, .slice none 0 0, .slice none 0 0, .slice none 0 0]) (e := 26) s (by kernel_rfl) rfl rfl (flat_ok rfl) (Nat.le_of_ble_eq_true rfl) ?_)
 clear s
 rintro w56 s k60 -
 replace e4 := e4.st k60
 replace e1 := e1.st k60
 replace e2 := e2.st k60
 replace e3 := e3.st k60
 replace e5 := e5.st k60
 replace e6 := e6.st k60
 replace e7 := e7.st k60
 replace rp32 := rp32.st k60
 replace rp33 := rp33.st k60
 replace rp34 := rp34.st k60
 replace rp20 := rp20.st k60
 replace rp21 := rp21.st k60
 replace rp22 := rp22.st k60
 replace kk := kk.trans k60
 replace kS2 := kS2.trans k60
 refine ⟨fun h => absurd h (by decide), RD.fold ?_⟩
 refine RD.op (i := 7) rfl (by kernel_rfl) (by kernel_rfl) (OK.store hT (i := 4) (b := b13) (off := 0) (n := 4) (vs := [.bool x22.Leaf, .slice A40 n24 u40, .slice A41 n25 u41, .slice A42 n26 u42]) (cs := [.bool false, .slice none 0 0, .slice none 0 0, .slice none 0 0]) (e := 26) s (by kernel_rfl) rfl rfl (flat_ok rfl) (Nat.le_of_ble_eq_true rfl) ?_)
 clear s
 rintro w57 s k61 -
 replace e4 := e4.st k61
 replace e1 := e1.st k61
 replace e2 := e2.st k61
 replace e3 := e3.st k61
 replace e5 := e5.st k61
 replace e6 := e6.st k61
 replace e7 := e7.st k61
 replace rp32 := rp32.st k61
 replace rp33 := rp33.st k61
 replace rp34 := rp34.st k61
 replace rp20 := rp20.st k61
 replace rp21 := rp21.st k61
 replace rp22 := rp22.st k61
 replace kk := kk.trans k61
 replace kS2 := kS2.trans k61
 refine ⟨fun h => absurd h (by decide), RD.fold ?_⟩
 refine RD.done (by kernel_rfl) ?_
 replace s := s.pick [4, 0, 1, 2, 3, 5, 6, 7, 8] 11 rfl
 exact fun X h => kc (by kernel_rfl) rfl (h I16 x22.Leaf x22.Pairs x22.Keys x22.Kids x21.Leaf x21.Pairs x21.Keys x21.Kids b12 b13 A40 n24 u40 cl33 A41 n25 u41 cl34 A42 n26 u42 cl35 A28 n12 u28 cl21 A29 n13 u29 cl22 A30 n14 u30 cl23 _ hf s kk e4 hn21 rp32 hn22 rp33 hn23 rp34 hn9 rp20 hn10 rp21 hn11 rp22)
 refine RWay.op rfl (by kernel_rfl) (OK.new hT (f := fun b => .pointer (some ⟨b, 0, none⟩)) (cs := [.bool false, .slice none 0 0, .slice none 0 0, .slice none 0 0]) (e := 26) (c := .tt) s (by kernel_rfl) trivial ?_)
 clear s
 rintro w43 b12 s k47 -
 replace e4 := e4.st k47
 replace e1 := e1.st k47
 replace e2 := e2.st k47
 replace e3 := e3.st k47
 replace e5 := e5.st k47
 replace e6 := e6.st k47
 replace e7 := e7.st k47
 replace rp20 := rp20.st k47
 replace rp21 := rp21.st k47
 replace rp22 := rp22.st k47
 replace kk := kk.trans k47
 replace kS2 := kS2.trans k47
 refine ⟨fun _ => ⟨_, s.pick [5, 6, 7] 8 rfl, kS2⟩, RD.fold ?_⟩
 refine RD.op (i := 3) rfl (by kernel_rfl) (by kernel_rfl) (OK.call' en25 (by kernel_rfl) (c25 (F := (.blk b12 (.cells #[.bool false, .slice none 0 0, .slice none 0 0, .slice none 0 0] 26 (0, 0))) :: (.blk b13 (.cells #[.bool false, .slice none 0 0, .slice none 0 0, .slice none 0 0] 26 (0, 0))) :: (.sl (.slice A28 n12 u28) 48 2 n12 cl21) :: (.sl (.slice A29 n13 u29) 27 1 n13 cl22) :: (.sl (.slice A30 n14 u30) 3 1 n14 cl23) :: (.blk b3 (.cells #[.bool false, .slice none 0 0, .slice none 0 0, .slice none 0 0] 26 (0, 0))) :: (.blk b2 (.cells #[.bool p2.Leaf, .slice A5 p2.Pairs.length u5, .slice A6 p2.Keys.length u6, .slice A7 p2.Kids.length u7] 26 (0, 0))) :: (.blk b1 (.cells #[.bool p0.Leaf, .slice A1 p0.Pairs.length u1, .slice A2 p0.Keys.length u2, .slice A3 p0.Kids.length u3] 26 (0, 0))) :: F) p2 A5 u5 A6 u6 A7 u7 hc5 e5 hc6 e6 hc7 e7 s hx13) ?_)
 intro X13 hX13
 refine fun _ _ hJ => hJ X13 ?_
 clear s
 intro I17 A43 n27 u43 cl36 A44 n28 u44 cl37 A45 n29 u45 cl38 w58 s k62 hn24 rp35 hn25 rp36 hn26 rp37
 refine hX13 _ _ ?_
 replace e4 := e4.st k62
 replace e1 := e1.st k62
 replace e2 := e2.st k62
 replace e3 := e3.st k62
 replace e5 := e5.st k62
 replace e6 := e6.st k62
 replace e7 := e7.st k62
 replace rp20 := rp20.st k62
 replace rp21 := rp21.st k62
 replace rp22 := rp22.st k62
 replace kk := kk.trans k62
 replace kS2 := kS2.trans k62
 refine ⟨fun _ => ⟨_, s.pick [8, 9, 10] 11 rfl, kS2⟩, RD.fold ?_⟩
 refine RD.op (i := 6) rfl (by kernel_rfl) (by kernel_rfl) (OK.store hT (i := 3) (b := b12) (off := 0) (n := 4) (vs := [.bool x21.Leaf, .slice A28 n12 u28, .slice A29 n13 u29, .slice A30 n14 u30]) (cs := [.bool false, .slice none 0 0, .slice none 0 0, .slice none 0 0]) (e := 26) s (by kernel_rfl) rfl rfl (flat_ok rfl) (Nat.le_of_ble_eq_true rfl) ?_)
 clear s
 rintro w59 s k63 -
 replace e4 := e4.st k63
 replace e1 := e1.st k63
 replace e2 := e2.st k63
 replace e3 := e3.st k63
 replace e5 := e5.st k63
 replace e6 := e6.st k63
 replace e7 := e7.st k63
 replace rp35 := rp35.st k63
 replace rp36 := rp36.st k63
 replace rp37 := rp37.st k63
 replace rp20 := rp20.st k63
 replace rp21 := rp21.st k63
 replace rp22 := rp22.st k63
 replace kk := kk.trans k63
 replace kS2 := kS2.trans k63
 refine ⟨fun h => absurd h (by decide), RD.fold ?_⟩
 refine RD.op (i := 7) rfl (by kernel_rfl) (by kernel_rfl) (OK.store hT (i := 4) (b := b13) (off := 0) (n := 4) (vs := [.bool x22.Leaf, .slice A43 n27 u43, .slice A44 n28 u44, .slice A45 n29 u45]) (cs := [.bool false, .slice none 0 0, .slice none 0 0, .slice none 0 0]) (e := 26) s (by kernel_rfl) rfl rfl (flat_ok rfl) (Nat.le_of_ble_eq_true rfl) ?_)
 clear s
 rintro w60 s k64 -
 replace e4 := e4.st k64
 replace e1 := e1.st k64
 replace e2 := e2.st k64
 replace e3 := e3.st k64
 replace e5 := e5.st k64
 replace e6 := e6.st k64
 replace e7 := e7.st k64
 replace rp35 := rp35.st k64
 replace rp36 := rp36.st k64
 replace rp37 := rp37.st k64
 replace rp20 := rp20.st k64
 replace rp21 := rp21.st k64
 replace rp22 := rp22.st k64
 replace kk := kk.trans k64
 replace kS2 := kS2.trans k64
 refine ⟨fun h => absurd h (by decide), RD.fold ?_⟩
 refine RD.done (by kernel_rfl) ?_
 replace s := s.pick [4, 3, 0, 1, 2, 5, 6, 7, 8] 11 rfl
 exact fun X h => kc (by kernel_rfl) rfl (h I17 x22.Leaf x22.Pairs x22.Keys x22.Kids x21.Leaf x21.Pairs x21.Keys x21.Kids b12 b13 A43 n27 u43 cl36 A44 n28 u44 cl37 A45 n29 u45 cl38 A28 n12 u28 cl21 A29 n13 u29 cl22 A30 n14 u30 cl23 _ hf s kk e4 hn24 rp35 hn25 rp36 hn26 rp37 hn9 rp20 hn10 rp21 hn11 rp22)
 refine RWay.op rfl (by kernel_rfl) (OK.new hT (f := fun b => .pointer (some ⟨b, 0, none⟩)) (cs := [.bool false, .slice none 0 0, .slice none 0 0, .slice none 0 0]) (e := 26) (c := .tt) s (by kernel_rfl) trivial ?_)
 clear s
 rintro w43 b12 s k47 -
 replace e4 := e4.st k47
 replace e1 := e1.st k47
 replace e2 := e2.st k47
 replace e3 := e3.st k47
 replace e5 := e5.st k47
 replace e6 := e6.st k47
 replace e7 := e7.st k47
 replace kk := kk.trans k47
 replace kS2 := kS2.trans k47
 refine ⟨fun _ => ⟨_, s.pick [1, 2, 3] 4 rfl, kS2⟩, RD.fold ?_⟩
 refine RD.ways [1, 5] (by kernel_rfl) (List.forall_mem_cons.2 ⟨?_, List.forall_mem_cons.2 ⟨?_, fun _ h => nomatch h⟩⟩)
 refine RWay.op rfl (by kernel_rfl) (OK.call' en25 (by kernel_rfl) (c25 (F := (.blk b12 (.cells #[.bool false, .slice none 0 0, .slice none 0 0, .slice none 0 0] 26 (0, 0))) :: (.blk b3 (.cells #[.bool false, .slice none 0 0, .slice none 0 0, .slice none 0 0] 26 (0, 0))) :: (.blk b2 (.cells #[.bool p2.Leaf, .slice A5 p2.Pairs.length u5, .slice A6 p2.Keys.length u6, .slice A7 p2.Kids.length u7] 26 (0, 0))) :: (.blk b1 (.cells #[.bool p0.Leaf, .slice A1 p0.Pairs.length u1, .slice A2 p0.Keys.length u2, .slice A3 p0.Kids.length u3] 26 (0, 0))) :: F) p0 A1 u1 A2 u2 A3 u3 hc1 e1 hc2 e2 hc3 e3 s hx12) ?_)
 intro X14 hX14
 refine fun _ _ hJ => hJ X14 ?_
 clear s
 intro I18 A46 n30 u46 cl39 A47 n31 u47 cl40 A48 n32 u48 cl41 w61 s k65 hn27 rp38 hn28 rp39 hn29 rp40
 refine hX14 _ _ ?_
 replace e4 := e4.st k65
 replace e1 := e1.st k65
 replace e2 := e2.st k65
 replace e3 := e3.st k65
 replace e5 := e5.st k65
 replace e6 := e6.st k65
 replace e7 := e7.st k65
 replace kk := kk.trans k65
 replace kS2 := kS2.trans k65
 refine ⟨fun _ => ⟨_, s.pick [4, 5, 6] 7 rfl, kS2⟩, RD.fold ?_⟩
 obtain ⟨x23, hx14, hf⟩ := bindS hf
 refine RD.ways [3, 5] (by kernel_rfl) (List.forall_mem_cons.2 ⟨?_, List.forall_mem_cons.2 ⟨?_, fun _ h => nomatch h⟩⟩)
 refine RWay.op rfl (by kernel_rfl) (OK.call' en25 (by kernel_rfl) (c25 (F := (.sl (.slice A46 n30 u46) 48 2 n30 cl39) :: (.sl (.slice A47 n31 u47) 27 1 n31 cl40) :: (.sl (.slice A48 n32 u48) 3 1 n32 cl41) :: (.blk b12 (.cells #[.bool false, .slice none 0 0, .slice none 0 0, .slice none 0 0] 26 (0, 0))) :: (.blk b3 (.cells #[.bool false, .slice none 0 0, .slice none 0 0, .slice none 0 0] 26 (0, 0))) :: (.blk b2 (.cells #[.bool p2.Leaf, .slice A5 p2.Pairs.length u5, .slice A6 p2.Keys.length u6, .slice A7 p2.Kids.length u7] 26 (0, 0))) :: (.blk b1 (.cells #[.bool p0.Leaf, .slice A1 p0.Pairs.length u1, .slice A2 p0.Keys.length u2, .slice A3 p0.Kids.length u3] 26 (0, 0))) :: F) p2 A5 u5 A6 u6 A7 u7 hc5 e5 hc6 e6 hc7 e7 s hx14) ?_)
 intro X15 hX15
 refine fun _ _ hJ => hJ X15 ?_
 clear s
 intro I19 A49 n33 u49 cl42 A50 n34 u50 cl43 A51 n35 u51 cl44 w62 s k66 hn30 rp41 hn31 rp42 hn32 rp43
 refine hX15 _ _ ?_
 replace e4 := e4.st k66
 replace e1 := e1.st k66
 replace e2 := e2.st k66
 replace e3 := e3.st k66
 replace e5 := e5.st k66
 replace e6 := e6.st k66
 replace e7 := e7.st k66
 replace rp38 := rp38.st k66
 replace rp39 := rp39.st k66
 replace rp40 := rp40.st k66
 replace kk := kk.trans k66
 replace kS2 := kS2.trans k66
 refine ⟨fun _ => ⟨_, s.pick [7, 8, 9] 10 rfl, kS2⟩, RD.fold ?_⟩
 refine RD.op (i := 5) rfl (by kernel_rfl) (by kernel_rfl) (OK.new hT (f := fun b => .pointer (some ⟨b, 0, none⟩)) (cs := [.bool false, .slice none 0 0, .slice none 0 0, .slice none 0 0]) (e := 26) (c := .tt) s (by kernel_rfl) trivial ?_)
 clear s
 rintro w44 b13 s k48 -
 replace e4 := e4.st k48
 replace e1 := e1.st k48
 replace e2 := e2.st k48
 replace e3 := e3.st k48
 replace e5 := e5.st k48
 replace e6 := e6.st k48
 replace e7 := e7.st k48
 replace rp41 := rp41.st k48
 replace rp42 := rp42.st k48
 replace rp43 := rp43.st k48
 replace rp38 := rp38.st k48
 replace rp39 := rp39.st k48
 replace rp40 := rp40.st k48
 replace kk := kk.trans k48
 replace kS2 := kS2.trans k48
 refine ⟨fun _ => ⟨_, s.pick [8, 9, 10] 11 rfl, kS2⟩, RD.fold ?_⟩
 refine RD.op (i := 6) rfl (by kernel_rfl) (by kernel_rfl) (OK.store hT (i := 7) (b := b12) (off := 0) (n := 4) (vs := [.bool x21.Leaf, .slice A46 n30 u46, .slice A47 n31 u47, .slice A48 n32 u48]) (cs := [.bool false, .slice none 0 0, .slice none 0 0, .slice none 0 0]) (e := 26) s (by kernel_rfl) rfl rfl (flat_ok rfl) (Nat.le_of_ble_eq_true rfl) ?_)
 clear s
 rintro w63 s k67 -
 replace e4 := e4.st k67
 replace e1 := e1.st k67
 replace e2 := e2.st k67
 replace e3 := e3.st k67
 replace e5 := e5.st k67
 replace e6 := e6.st k67
 replace e7 := e7.st k67
 replace rp41 := rp41.st k67
 replace rp42 := rp42.st k67
 replace rp43 := rp43.st k67
 replace rp38 := rp38.st k67
 replace rp39 := rp39.st k67
 replace rp40 := rp40.st k67
 replace kk := kk.trans k67
 replace kS2 := kS2.trans k67
 refine ⟨fun h => absurd h (by decide), RD.fold ?_⟩
 refine RD.op (i := 7) rfl (by kernel_rfl) (by kernel_rfl) (OK.store hT (i := 0) (b := b13) (off := 0) (n := 4) (vs := [.bool x23.Leaf, .slice A49 n33 u49, .slice A50 n34 u50, .slice A51 n35 u51]) (cs := [.bool false, .slice none 0 0, .slice none 0 0, .slice none 0 0]) (e := 26) s (by kernel_rfl) rfl rfl (flat_ok rfl) (Nat.le_of_ble_eq_true rfl) ?_)
 clear s
 rintro w64 s k68 -
 replace e4 := e4.st k68
 replace e1 := e1.st k68
 replace e2 := e2.st k68
 replace e3 := e3.st k68
 replace e5 := e5.st k68
 replace e6 := e6.st k68
 replace e7 := e7.st k68
 replace rp41 := rp41.st k68
 replace rp42 := rp42.st k68
 replace rp43 := rp43.st k68
 replace rp38 := rp38.st k68
 replace rp39 := rp39.st k68
 replace rp40 := rp40.st k68
 replace kk := kk.trans k68
 replace kS2 := kS2.trans k68
 refine ⟨fun h => absurd h (by decide), RD.fold ?_⟩
 refine RD.done (by kernel_rfl) ?_
 replace s := s.pick [0, 7, 1, 2, 3, 4, 5, 6, 8] 11 rfl
 exact fun X h => kc (by kernel_rfl) rfl (h I19 x23.Leaf x23.Pairs x23.Keys x23.Kids x21.Leaf x21.Pairs x21.Keys x21.Kids b12 b13 A49 n33 u49 cl42 A50 n34 u50 cl43 A51 n35 u51 cl44 A46 n30 u46 cl39 A47 n31 u47 cl40 A48 n32 u48 cl41 _ hf s kk e4 hn30 rp41 hn31 rp42 hn32 rp43 hn27 rp38 hn28 rp39 hn29 rp40)
 refine RWay.op rfl (by kernel_rfl) (OK.new hT (f := fun b => .pointer (some ⟨b, 0, none⟩)) (cs := [.bool false, .slice none 0 0, .slice none 0 0, .slice none 0 0]) (e := 26) (c := .tt) s (by kernel_rfl) trivial ?_)
 clear s
 rintro w44 b13 s k48 -
 replace e4 := e4.st k48
 replace e1 := e1.st k48
 replace e2 := e2.st k48
 replace e3 := e3.st k48
 replace e5 := e5.st k48
 replace e6 := e6.st k48
 replace e7 := e7.st k48
 replace rp38 := rp38.st k48
 replace rp39 := rp39.st k48
 replace rp40 := rp40.st k48
 replace kk := kk.trans k48
 replace kS2 := kS2.trans k48
 refine ⟨fun _ => ⟨_, s.pick [5, 6, 7] 8 rfl, kS2⟩, RD.fold ?_⟩
 refine RD.op (i := 3) rfl (by kernel_rfl) (by kernel_rfl) (OK.call' en25 (by kernel_rfl) (c25 (F := (.blk b13 (.cells #[.bool false, .slice none 0 0, .slice none 0 0, .slice none 0 0] 26 (0, 0))) :: (.sl (.slice A46 n30 u46) 48 2 n30 cl39) :: (.sl (.slice A47 n31 u47) 27 1 n31 cl40) :: (.sl (.slice A48 n32 u48) 3 1 n32 cl41) :: (.blk b12 (.cells #[.bool false, .slice none 0 0, .slice none 0 0, .slice none 0 0] 26 (0, 0))) :: (.blk b3 (.cells #[.bool false, .slice none 0 0, .slice none 0 0, .slice none 0 0] 26 (0, 0))) :: (.blk b2 (.cells #[.bool p2.Leaf, .slice A5 p2.Pairs.length u5, .slice A6 p2.Keys.length u6, .slice A7 p2.Kids.length u7] 26 (0, 0))) :: (.blk b1 (.cells #[.bool p0.Leaf, .slice A1 p0.Pairs.length u1, .slice A2 p0.Keys.length u2, .slice A3 p0.Kids.length u3] 26 (0, 0))) :: F) p2 A5 u5 A6 u6 A7 u7 hc5 e5 hc6 e6 hc7 e7 s hx14) ?_)
 intro X16 hX16
 refine fun _ _ hJ => hJ X16 ?_
 clear s
 intro I20 A52 n36 u52 cl45 A53 n37 u53 cl46 A54 n38 u54 cl47 w65 s k69 hn33 rp44 hn34 rp45 hn35 rp46
 refine hX16 _ _ ?_
 replace e4 := e4.st k69
 replace e1 := e1.st k69
 replace e2 := e2.st k69
 replace e3 := e3.st k69
 replace e5 := e5.st k69
 replace e6 := e6.st k69
 replace e7 := e7.st k69
 replace rp38 := rp38.st k69
 replace rp39 := rp39.st k69
 replace rp40 := rp40.st k69
 replace kk := kk.trans k69
 replace kS2 := kS2.trans k69
 refine ⟨fun _ => ⟨_, s.pick [8, 9, 10] 11 rfl, kS2⟩, RD.fold ?_⟩
 refine RD.op (i := 6) rfl (by kernel_rfl) (by kernel_rfl) (OK.store hT (i := 7) (b := b12) (off := 0) (n := 4) (vs := [.bool x21.Leaf, .slice A46 n30 u46, .slice A47 n31 u47, .slice A48 n32 u48]) (cs := [.bool false, .slice none 0 0, .slice none 0 0, .slice none 0 0]) (e := 26) s (by kernel_rfl) rfl rfl (flat_ok rfl) (Nat.le_of_ble_eq_true rfl) ?_)
 clear s
 rintro w66 s k70 -
 replace e4 := e4.st k70
 replace e1 := e1.st k70
 replace e2 := e2.st k70
 replace e3 := e3.st k70
 replace e5 := e5.st k70
 replace e6 := e6.st k70
 replace e7 := e7.st k70
 replace rp44 := rp44.st k70
 replace rp45 := rp45.st k70
 replace rp46 := rp46.st k70
 replace rp38 := rp38.st k70
 replace rp39 := rp39.st k70
 replace rp40 := rp40.st k70
 replace kk := kk.trans k70
 replace kS2 := kS2.trans k70
 refine ⟨fun h => absurd h (by decide), RD.fold ?_⟩
 refine RD.op (i := 7) rfl (by kernel_rfl) (by kernel_rfl) (OK.store hT (i := 3) (b := b13) (off := 0) (n := 4) (vs := [.bool x23.Leaf, .slice A52 n36 u52, .slice A53 n37 u53, .slice A54 n38 u54]) (cs := [.bool false, .slice none 0 0, .slice none 0 0, .slice none 0 0]) (e := 26) s (by kernel_rfl) rfl rfl (flat_ok rfl) (Nat.le_of_ble_eq_true rfl) ?_)
 clear s
 rintro w67 s k71 -
 replace e4 := e4.st k71
 replace e1 := e1.st k71
 replace e2 := e2.st k71
 replace e3 := e3.st k71
 replace e5 := e5.st k71
 replace e6 := e6.st k71
 replace e7 := e7.st k71
 replace rp44 := rp44.st k71
 replace rp45 := rp45.st k71
 replace rp46 := rp46.st k71
 replace rp38 := rp38.st k71
 replace rp39 := rp39.st k71
 replace rp40 := rp40.st k71
 replace kk := kk.trans k71
 replace kS2 := kS2.trans k71
 refine ⟨fun h => absurd h (by decide), RD.fold ?_⟩
 refine RD.done (by kernel_rfl) ?_
 replace s := s.pick [3, 7, 0, 1, 2, 4, 5, 6, 8] 11 rfl
 exact fun X h => kc (by kernel_rfl) rfl (h I20 x23.Leaf x23.Pairs x23.Keys x23.Kids x21.Leaf x21.Pairs x21.Keys x21.Kids b12 b13 A52 n36 u52 cl45 A53 n37 u53 cl46 A54 n38 u54 cl47 A46 n30 u46 cl39 A47 n31 u47 cl40 A48 n32 u48 cl41 _ hf s kk e4 hn33 rp44 hn34 rp45 hn35 rp46 hn27 rp38 hn28 rp39 hn29 rp40)
 refine RWay.op rfl (by kernel_rfl) (OK.new hT (f := fun b => .pointer (some ⟨b, 0, none⟩)) (cs := [.bool false, .slice none 0 0, .slice none 0 0, .slice none 0 0]) (e := 26) (c := .tt) s (by kernel_rfl) trivial ?_)
 clear s
 rintro w44 b13 s k48 -
 replace e4 := e4.st k48
 replace e1 := e1.st k48
 replace e2 := e2.st k48
 replace e3 := e3.st k48
 replace e5 := e5.st k48
 replace e6 := e6.st k48
 replace e7 := e7.st k48
 replace kk := kk.trans k48
 replace kS2 := kS2.trans k48
 refine ⟨fun _ => ⟨_, s.pick [2, 3, 4] 5 rfl, kS2⟩, RD.fold ?_⟩
 refine RD.op (i := 1) rfl (by kernel_rfl) (by kernel_rfl) (OK.call' en25 (by kernel_rfl) (c25 (F := (.blk b13 (.cells #[.bool false, .slice none 0 0, .slice none 0 0, .slice none 0 0] 26 (0, 0))) :: (.blk b12 (.cells #[.bool false, .slice none 0 0, .slice none 0 0, .slice none 0 0] 26 (0, 0))) :: (.blk b3 (.cells #[.bool false, .slice none 0 0, .slice none 0 0, .slice none 0 0] 26 (0, 0))) :: (.blk b2 (.cells #[.bool p2.Leaf, .slice A5 p2.Pairs.length u5, .slice A6 p2.Keys.length u6, .slice A7 p2.Kids.length u7] 26 (0, 0))) :: (.blk b1 (.cells #[.bool p0.Leaf, .slice A1 p0.Pairs.length u1, .slice A2 p0.Keys.length u2, .slice A3 p0.Kids.length u3] 26 (0, 0))) :: F) p0 A1 u1 A2 u2 A3 u3 hc1 e1 hc2 e2 hc3 e3 s hx12) ?_)
 intro X17 hX17
 refine fun _ _ hJ => hJ X17 ?_
 clear s
 intro I21 A55 n39 u55 cl48 A56 n40 u56 cl49 A57 n41 u57 cl50 w68 s k72 hn36 rp47 hn37 rp48 hn38 rp49
 refine hX17 _ _ ?_
 replace e4 := e4.st k72
 replace e1 := e1.st k72
 replace e2 := e2.st k72
 replace e3 := e3.st k72
 replace e5 := e5.st k72
 replace e6 := e6.st k72
 replace e7 := e7.st k72
 replace kk := kk.trans k72
 replace kS2 := kS2.trans k72
 refine ⟨fun _ => ⟨_, s.pick [5, 6, 7] 8 rfl, kS2⟩, RD.fold ?_⟩
 obtain ⟨x24, hx15, hf⟩ := bindS hf
 refine RD.op (i := 3) rfl (by kernel_rfl) (by kernel_rfl) (OK.call' en25 (by kernel_rfl) (c25 (F := (.sl (.slice A55 n39 u55) 48 2 n39 cl48) :: (.sl (.slice A56 n40 u56) 27 1 n40 cl49) :: (.sl (.slice A57 n41 u57) 3 1 n41 cl50) :: (.blk b13 (.cells #[.bool false, .slice none 0 0, .slice none 0 0, .slice none 0 0] 26 (0, 0))) :: (.blk b12 (.cells #[.bool false, .slice none 0 0, .slice none 0 0, .slice none 0 0] 26 (0, 0))) :: (.blk b3 (.cells #[.bool false, .slice none 0 0, .slice none 0 0, .slice none 0 0] 26 (0, 0))) :: (.blk b2 (.cells #[.bool p2.Leaf, .slice A5 p2.Pairs.length u5, .slice A6 p2.Keys.length u6, .slice A7 p2.Kids.length u7] 26 (0, 0))) :: (.blk b1 (.cells #[.bool p0.Leaf, .slice A1 p0.Pairs.length u1, .slice A2 p0.Keys.length u2, .slice A3 p0.Kids.length u3] 26 (0, 0))) :: F) p2 A5 u5 A6 u6 A7 u7 hc5 e5 hc6 e6 hc7 e7 s hx15) ?_)
 intro X18 hX18
 refine fun _ _ hJ => hJ X18 ?_
 clear s
 intro I22 A58 n42 u58 cl51 A59 n43 u59 cl52 A60 n44 u60 cl53 w69 s k73 hn39 rp50 hn40 rp51 hn41 rp52
 refine hX18 _ _ ?_
 replace e4 := e4.st k73
 replace e1 := e1.st k73
 replace e2 := e2.st k73
 replace e3 := e3.st k73
 replace e5 := e5.st k73
 replace e6 := e6.st k73
 replace e7 := e7.st k73
 replace rp47 := rp47.st k73
 replace rp48 := rp48.st k73
 replace rp49 := rp49.st k73
 replace kk := kk.trans k73
 replace kS2 := kS2.trans k73
 refine ⟨fun _ => ⟨_, s.pick [8, 9, 10] 11 rfl, kS2⟩, RD.fold ?_⟩
 refine RD.op (i := 6) rfl (by kernel_rfl) (by kernel_rfl) (OK.store hT (i := 7) (b := b12) (off := 0) (n := 4) (vs := [.bool x21.Leaf, .slice A55 n39 u55, .slice A56 n40 u56, .slice A57 n41 u57]) (cs := [.bool false, .slice none 0 0, .slice none 0 0, .slice none 0 0]) (e := 26) s (by kernel_rfl) rfl rfl (flat_ok rfl) (Nat.le_of_ble_eq_true rfl) ?_)
 clear s
 rintro w70 s k74 -
 replace e4 := e4.st k74
 replace e1 := e1.st k74
 replace e2 := e2.st k74
 replace e3 := e3.st k74
 replace e5 := e5.st k74
 replace e6 := e6.st k74
 replace e7 := e7.st k74
 replace rp50 := rp50.st k74
 replace rp51 := rp51.st k74
 replace rp52 := rp52.st k74
 replace rp47 := rp47.st k74
 replace rp48 := rp48.st k74
 replace rp49 := rp49.st k74
 replace kk := kk.trans k74
 replace kS2 := kS2.trans k74
 refine ⟨fun h => absurd h (by decide), RD.fold ?_⟩
 refine RD.op (i := 7) rfl (by kernel_rfl) (by kernel_rfl) (OK.store hT (i := 6) (b := b13) (off := 0) (n := 4) (vs := [.bool x24.Leaf, .slice A58 n42 u58, .slice A59 n43 u59, .slice A60 n44 u60]) (cs := [.bool false, .slice none 0 0, .slice none 0 0, .slice none 0 0]) (e := 26) s (by kernel_rfl) rfl rfl (flat_ok rfl) (Nat.le_of_ble_eq_true rfl) ?_)
 clear s
 rintro w71 s k75 -
 replace e4 := e4.st k75
 replace e1 := e1.st k75
 replace e2 := e2.st k75
 replace e3 := e3.st k75
 replace e5 := e5.st k75
 replace e6 := e6.st k75
 replace e7 := e7.st k75
 replace rp50 := rp50.st k75
 replace rp51 := rp51.st k75
 replace rp52 := rp52.st k75
 replace rp47 := rp47.st k75
 replace rp48 := rp48.st k75
 replace rp49 := rp49.st k75
 replace kk := kk.trans k75
 replace kS2 := kS2.trans k75
 refine ⟨fun h => absurd h (by decide), RD.fold ?_⟩
 refine RD.done (by kernel_rfl) ?_
 replace s := s.pick [6, 7, 0, 1, 2, 3, 4, 5, 8] 11 rfl
 exact fun X h => kc (by kernel_rfl) rfl (h I22 x24.Leaf x24.Pairs x24.Keys x24.Kids x21.Leaf x21.Pairs x21.Keys x21.Kids b12 b13 A58 n42 u58 cl51 A59 n43 u59 cl52 A60 n44 u60 cl53 A55 n39 u55 cl48 A56 n40 u56 cl49 A57 n41 u57 cl50 _ hf s kk e4 hn39 rp50 hn40 rp51 hn41 rp52 hn36 rp47 hn37 rp48 hn38 rp49)
 refine RWay.op rfl (by kernel_rfl) (OK.new hT (f := fun b => .pointer (some ⟨b, 0, none⟩)) (cs := [.bool false, .slice none 0 0, .slice none 0 0, .slice none 0 0]) (e := 26) (c := .tt) s (by kernel_rfl) trivial ?_)
 clear s
 rintro w44 b13 s k48 -
 replace e4 := e4.st k48
 replace e1 := e1.st k48
 replace e2 := e2.st k48
 replace e3 := e3.st k48
 replace e5 := e5.st k48
 replace e6 := e6.st k48
 replace e7 := e7.st k48
 replace kk := kk.trans k48
 replace kS2 := kS2.trans k48
 refine ⟨fun _ => ⟨_, s.pick [1, 2, 3] 4 rfl, kS2⟩, RD.fold ?_⟩
 refine RD.ways [1, 4] (by kernel_rfl) (List.forall_mem_cons.2 ⟨?_, List.forall_mem_cons.2 ⟨?_, fun _ h => nomatch h⟩⟩)
 refine RWay.op rfl (by kernel_rfl) (OK.call' en25 (by kernel_rfl) (c25 (F := (.blk b13 (.cells #[.bool false, .slice none 0 0, .slice none 0 0, .slice none 0 0] 26 (0, 0))) :: (.blk b3 (.cells #[.bool false, .slice none 0 0, .slice none 0 0, .slice none 0 0] 26 (0, 0))) :: (.blk b2 (.cells #[.bool p2.Leaf, .slice A5 p2.Pairs.length u5, .slice A6 p2.Keys.length u6, .slice A7 p2.Kids.length u7] 26 (0, 0))) :: (.blk b1 (.cells #[.bool p0.Leaf, .slice A1 p0.Pairs.length u1, .slice A2 p0.Keys.length u2, .slice A3 p0.Kids.length u3] 26 (0, 0))) :: F) p0 A1 u1 A2 u2 A3 u3 hc1 e1 hc2 e2 hc3 e3 s hx12) ?_)
 intro X19 hX19
 refine fun _ _ hJ => hJ X19 ?_
 clear s
 intro I23 A61 n45 u61 cl54 A62 n46 u62 cl55 A63 n47 u63 cl56 w72 s k76 hn42 rp53 hn43 rp54 hn44 rp55
 refine hX19 _ _ ?_
 replace e4 := e4.st k76
 replace e1 := e1.st k76
 replace e2 := e2.st k76
 replace e3 := e3.st k76
 replace e5 := e5.st k76
 replace e6 := e6.st k76
 replace e7 := e7.st k76
 replace kk := kk.trans k76
 replace kS2 := kS2.trans k76
 refine ⟨fun _ => ⟨_, s.pick [4, 5, 6] 7 rfl, kS2⟩, RD.fold ?_⟩
 obtain ⟨x25, hx16, hf⟩ := bindS hf
 refine RD.ways [3, 4] (by kernel_rfl) (List.forall_mem_cons.2 ⟨?_, List.forall_mem_cons.2 ⟨?_, fun _ h => nomatch h⟩⟩)
 refine RWay.op rfl (by kernel_rfl) (OK.call' en25 (by kernel_rfl) (c25 (F := (.sl (.slice A61 n45 u61) 48 2 n45 cl54) :: (.sl (.slice A62 n46 u62) 27 1 n46 cl55) :: (.sl (.slice A63 n47 u63) 3 1 n47 cl56) :: (.blk b13 (.cells #[.bool false, .slice none 0 0, .slice none 0 0, .slice none 0 0] 26 (0, 0))) :: (.blk b3 (.cells #[.bool false, .slice none 0 0, .slice none 0 0, .slice none 0 0] 26 (0, 0))) :: (.blk b2 (.cells #[.bool p2.Leaf, .slice A5 p2.Pairs.length u5, .slice A6 p2.Keys.length u6, .slice A7 p2.Kids.length u7] 26 (0, 0))) :: (.blk b1 (.cells #[.bool p0.Leaf, .slice A1 p0.Pairs.length u1, .slice A2 p0.Keys.length u2, .slice A3 p0.Kids.length u3] 26 (0, 0))) :: F) p2 A5 u5 A6 u6 A7 u7 hc5 e5 hc6 e6 hc7 e7 s hx16) ?_)
 intro X20 hX20
 refine fun _ _ hJ => hJ X20 ?_
 clear s
 intro I24 A64 n48 u64 cl57 A65 n49 u65 cl58 A66 n50 u66 cl59 w73 s k77 hn45 rp56 hn46 rp57 hn47 rp58
 refine hX20 _ _ ?_
 replace e4 := e4.st k77
 replace e1 := e1.st k77
 replace e2 := e2.st k77
 replace e3 := e3.st k77
 replace e5 := e5.st k77
 replace e6 := e6.st k77
 replace e7 := e7.st k77
 replace rp53 := rp53.st k77
 replace rp54 := rp54.st k77
 replace rp55 := rp55.st k77
 replace kk := kk.trans k77
 replace kS2 := kS2.trans k77
 refine ⟨fun _ => ⟨_, s.pick [7, 8, 9] 10 rfl, kS2⟩, RD.fold ?_⟩
 refine RD.op (i := 4) rfl (by kernel_rfl) (by kernel_rfl) (OK.new hT (f := fun b => .pointer (some ⟨b, 0, none⟩)) (cs := [.bool false, .slice none 0 0, .slice none 0 0, .slice none 0 0]) (e := 26) (c := .tt) s (by kernel_rfl) trivial ?_)
 clear s
 rintro w43 b12 s k47 -
 replace e4 := e4.st k47
 replace e1 := e1.st k47
 replace e2 := e2.st k47
 replace e3 := e3.st k47
 replace e5 := e5.st k47
 replace e6 := e6.st k47
 replace e7 := e7.st k47
 replace rp56 := rp56.st k47
 replace rp57 := rp57.st k47
 replace rp58 := rp58.st k47
 replace rp53 := rp53.st k47
 replace rp54 := rp54.st k47
 replace rp55 := rp55.st k47
 replace kk := kk.trans k47
 replace kS2 := kS2.trans k47
 refine ⟨fun _ => ⟨_, s.pick [8, 9, 10] 11 rfl, kS2⟩, RD.fold ?_⟩
 refine RD.op (i := 6) rfl (by kernel_rfl) (by kernel_rfl) (OK.store hT (i := 0) (b := b12) (off := 0) (n := 4) (vs := [.bool x21.Leaf, .slice A61 n45 u61, .slice A62 n46 u62, .slice A63 n47 u63]) (cs := [.bool false, .slice none 0 0, .slice none 0 0, .slice none 0 0]) (e := 26) s (by kernel_rfl) rfl rfl (flat_ok rfl) (Nat.le_of_ble_eq_true rfl) ?_)
 clear s
 rintro w74 s k78 -
 replace e4 := e4.st k78
 replace e1 := e1.st k78
 replace e2 := e2.st k78
 replace e3 := e3.st k78
 replace e5 := e5.st k78
 replace e6 := e6.st k78
 replace e7 := e7.st k78
 replace rp56 := rp56.st k78
 replace rp57 := rp57.st k78
 replace rp58 := rp58.st k78
 replace rp53 := rp53.st k78
 replace rp54 := rp54.st k78
 replace rp55 := rp55.st k78
 replace kk := kk.trans k78
 replace kS2 := kS2.trans k78
 refine ⟨fun h => absurd h (by decide), RD.fold ?_⟩
 refine RD.op (i := 7) rfl (by kernel_rfl) (by kernel_rfl) (OK.store hT (i := 7) (b := b13) (off := 0) (n := 4) (vs := [.bool x25.Leaf, .slice A64 n48 u64, .slice A65 n49 u65, .slice A66 n50 u66]) (cs := [.bool false, .slice none 0 0, .slice none 0 0, .slice none 0 0]) (e := 26) s (by kernel_rfl) rfl rfl (flat_ok rfl) (Nat.le_of_ble_eq_true rfl) ?_)
 clear s
 rintro w75 s k79 -
 replace e4 := e4.st k79
 replace e1 := e1.st k79
 replace e2 := e2.st k79
 replace e3 := e3.st k79
 replace e5 := e5.st k79
 replace e6 := e6.st k79
 replace e7 := e7.st k79
 replace rp56 := rp56.st k79
 replace rp57 := rp57.st k79
 replace rp58 := rp58.st k79
 replace rp53 := rp53.st k79
 replace rp54 := rp54.st k79
 replace rp55 := rp55.st k79
 replace kk := kk.trans k79
 replace kS2 := kS2.trans k79
 refine ⟨fun h => absurd h (by decide), RD.fold ?_⟩
 refine RD.done (by kernel_rfl) ?_
 replace s := s.pick [7, 0, 1, 2, 3, 4, 5, 6, 8] 11 rfl
 exact fun X h => kc (by kernel_rfl) rfl (h I24 x25.Leaf x25.Pairs x25.Keys x25.Kids x21.Leaf x21.Pairs x21.Keys x21.Kids b12 b13 A64 n48 u64 cl57 A65 n49 u65 cl58 A66 n50 u66 cl59 A61 n45 u61 cl54 A62 n46 u62 cl55 A63 n47 u63 cl56 _ hf s kk e4 hn45 rp56 hn46 rp57 hn47 rp58 hn42 rp53 hn43 rp54 hn44 rp55)
 refine RWay.op rfl (by kernel_rfl) (OK.new hT (f := fun b => .pointer (some ⟨b, 0, none⟩)) (cs := [.bool false, .slice none 0 0, .slice none 0 0, .slice none 0 0]) (e := 26) (c := .tt) s (by kernel_rfl) trivial ?_)
 clear s
 rintro w43 b12 s k47 -
 replace e4 := e4.st k47
 replace e1 := e1.st k47
 replace e2 := e2.st k47
 replace e3 := e3.st k47
 replace e5 := e5.st k47
 replace e6 := e6.st k47
 replace e7 := e7.st k47
 replace rp53 := rp53.st k47
 replace rp54 := rp54.st k47
 replace rp55 := rp55.st k47
 replace kk := kk.trans k47
 replace kS2 := kS2.trans k47
 refine ⟨fun _ => ⟨_, s.pick [5, 6, 7] 8 rfl, kS2⟩, RD.fold ?_⟩
 refine RD.op (i := 3) rfl (by kernel_rfl) (by kernel_rfl) (OK.call' en25 (by kernel_rfl) (c25 (F := (.blk b12 (.cells #[.bool false, .slice none 0 0, .slice none 0 0, .slice none 0 0] 26 (0, 0))) :: (.sl (.slice A61 n45 u61) 48 2 n45 cl54) :: (.sl (.slice A62 n46 u62) 27 1 n46 cl55) :: (.sl (.slice A63 n47 u63) 3 1 n47 cl56) :: (.blk b13 (.cells #[.bool false, .slice none 0 0, .slice none 0 0, .slice none 0 0] 26 (0, 0))) :: (.blk b3 (.cells #[.bool false, .slice none 0 0, .slice none 0 0, .slice none 0 0] 26 (0, 0))) :: (.blk b2 (.cells #[.bool p2.Leaf, .slice A5 p2.Pairs.length u5, .slice A6 p2.Keys.length u6, .slice A7 p2.Kids.length u7] 26 (0, 0))) :: (.blk b1 (.cells #[.bool p0.Leaf, .slice A1 p0.Pairs.length u1, .slice A2 p0.Keys.length u2, .slice A3 p0.Kids.length u3] 26 (0, 0))) :: F) p2 A5 u5 A6 u6 A7 u7 hc5 e5 hc6 e6 hc7 e7 s hx16) ?_)
 intro X21 hX21
 refine fun _ _ hJ => hJ X21 ?_
 clear s
 intro I25 A67 n51 u67 cl60 A68 n52 u68 cl61 A69 n53 u69 cl62 w76 s k80 hn48 rp59 hn49 rp60 hn50 rp61
 refine hX21 _ _ ?_
 replace e4 := e4.st k80
 replace e1 := e1.st k80
 replace e2 := e2.st k80
 replace e3 := e3.st k80
 replace e5 := e5.st k80
 replace e6 := e6.st k80
 replace e7 := e7.st k80
 replace rp53 := rp53.st k80
 replace rp54 := rp54.st k80
 replace rp55 := rp55.st k80
 replace kk := kk.trans k80
 replace kS2 := kS2.trans k80
 refine ⟨fun _ => ⟨_, s.pick [8, 9, 10] 11 rfl, kS2⟩, RD.fold ?_⟩
 refine RD.op (i := 6) rfl (by kernel_rfl) (by kernel_rfl) (OK.store hT (i := 3) (b := b12) (off := 0) (n := 4) (vs := [.bool x21.Leaf, .slice A61 n45 u61, .slice A62 n46 u62, .slice A63 n47 u63]) (cs := [.bool false, .slice none 0 0, .slice none 0 0, .slice none 0 0]) (e := 26) s (by kernel_rfl) rfl rfl (flat_ok rfl) (Nat.le_of_ble_eq_true rfl) ?_)
 clear s
 rintro w77 s k81 -
 replace e4 := e4.st k81
 replace e1 := e1.st k81
 replace e2 := e2.st k81
 replace e3 := e3.st k81
 replace e5 := e5.st k81
 replace e6 := e6.st k81
 replace e7 := e7.st k81
 replace rp59 := rp59.st k81
 replace rp60 := rp60.st k81
 replace rp61 := rp61.st k81
 replace rp53 := rp53.st k81
 replace rp54 := rp54.st k81
 replace rp55 := rp55.st k81
 replace kk := kk.trans k81
 replace kS2 := kS2.trans k81
 refine ⟨fun h => absurd h (by decide), RD.fold ?_⟩
 refine RD.op (i := 7) rfl (by kernel_rfl) (by kernel_rfl) (OK.store hT (i := 7) (b := b13) (off := 0) (n := 4) (vs := [.bool x25.Leaf, .slice A67 n51 u67, .slice A68 n52 u68, .slice A69 n53 u69]) (cs := [.bool false, .slice none 0 0, .slice none 0 0, .slice none 0 0]) (e := 26) s (by kernel_rfl) rfl rfl (flat_ok rfl) (Nat.le_of_ble_eq_true rfl) ?_)
 clear s
 rintro w78 s k82 -
 replace e4 := e4.st k82
 replace e1 := e1.st k82
 replace e2 := e2.st k82
 replace e3 := e3.st k82
 replace e5 := e5.st k82
 replace e6 := e6.st k82
 replace e7 := e7.st k82
 replace rp59 := rp59.st k82
 replace rp60 := rp60.st k82
 replace rp61 := rp61.st k82
 replace rp53 := rp53.st k82
 replace rp54 := rp54.st k82
 replace rp55 := rp55.st k82
 replace kk := kk.trans k82
 replace kS2 := kS2.trans k82
 refine ⟨fun h => absurd h (by decide), RD.fold ?_⟩
 refine RD.done (by kernel_rfl) ?_
 replace s := s.pick [7, 3, 0, 1, 2, 4, 5, 6, 8] 11 rfl
 exact fun X h => kc (by kernel_rfl) rfl (h I25 x25.Leaf x25.Pairs x25.Keys x25.Kids x21.Leaf x21.Pairs x21.Keys x21.Kids b12 b13 A67 n51 u67 cl60 A68 n52 u68 cl61 A69 n53 u69 cl62 A61 n45 u61 cl54 A62 n46 u62 cl55 A63 n47 u63 cl56 _ hf s kk e4 hn48 rp59 hn49 rp60 hn50 rp61 hn42 rp53 hn43 rp54 hn44 rp55)
 refine RWay.op rfl (by kernel_rfl) (OK.new hT (f := fun b => .pointer (some ⟨b, 0, none⟩)) (cs := [.bool false, .slice none 0 0, .slice none 0 0, .slice none 0 0]) (e := 26) (c := .tt) s (by kernel_rfl) trivial ?_)
 clear s
 rintro w43 b12 s k47 -
 replace e4 := e4.st k47
 replace e1 := e1.st k47
 replace e2 := e2.st k47
 replace e3 := e3.st k47
 replace e5 := e5.st k47
 replace e6 := e6.st k47
 replace e7 := e7.st k47
 replace kk := kk.trans k47
 replace kS2 := kS2.trans k47
 refine ⟨fun _ => ⟨_, s.pick [2, 3, 4] 5 rfl, kS2⟩, RD.fold ?_⟩
 refine RD.op (i := 1) rfl (by kernel_rfl) (by kernel_rfl) (OK.call' en25 (by kernel_rfl) (c25 (F := (.blk b12 (.cells #[.bool false, .slice none 0 0, .slice none 0 0, .slice none 0 0] 26 (0, 0))) :: (.blk b13 (.cells #[.bool false, .slice none 0 0, .slice none 0 0, .slice none 0 0] 26 (0, 0))) :: (.blk b3 (.cells #[.bool false, .slice none 0 0, .slice none 0 0, .slice none 0 0] 26 (0, 0))) :: (.blk b2 (.cells #[.bool p2.Leaf, .slice A5 p2.Pairs.length u5, .slice A6 p2.Keys.length u6, .slice A7 p2.Kids.length u7] 26 (0, 0))) :: (.blk b1 (.cells #[.bool p0.Leaf, .slice A1 p0.Pairs.length u1, .slice A2 p0.Keys.length u2, .slice A3 p0.Kids.length u3] 26 (0, 0))) :: F) p0 A1 u1 A2 u2 A3 u3 hc1 e1 hc2 e2 hc3 e3 s hx12) ?_)
 intro X22 hX22
 refine fun _ _ hJ => hJ X22 ?_
 clear s
 intro I26 A70 n54 u70 cl63 A71 n55 u71 cl64 A72 n56 u72 cl65 w79 s k83 hn51 rp62 hn52 rp63 hn53 rp64
 refine hX22 _ _ ?_
 replace e4 := e4.st k83
 replace e1 := e1.st k83
 replace e2 := e2.st k83
 replace e3 := e3.st k83
 replace e5 := e5.st k83
 replace e6 := e6.st k83
 replace e7 := e7.st k83
 replace kk := kk.trans k83
 replace kS2 := kS2.trans k83
 refine ⟨fun _ => ⟨_, s.pick [5, 6, 7] 8 rfl, kS2⟩, RD.fold ?_⟩
 obtain ⟨x26, hx17, hf⟩ := bindS hf
 refine RD.op (i := 3) rfl (by kernel_rfl) (by kernel_rfl) (OK.call' en25 (by kernel_rfl) (c25 (F := (.sl (.slice A70 n54 u70) 48 2 n54 cl63) :: (.sl (.slice A71 n55 u71) 27 1 n55 cl64) :: (.sl (.slice A72 n56 u72) 3 1 n56 cl65) :: (.blk b12 (.cells #[.bool false, .slice none 0 0, .slice none 0 0, .slice none 0 0] 26 (0, 0))) :: (.blk b13 (.cells #[.bool false, .slice none 0 0, .slice none 0 0, .slice none 0 0] 26 (0, 0))) :: (.blk b3 (.cells #[.bool false, .slice none 0 0, .slice none 0 0, .slice none 0 0] 26 (0, 0))) :: (.blk b2 (.cells #[.bool p2.Leaf, .slice A5 p2.Pairs.length u5, .slice A6 p2.Keys.length u6, .slice A7 p2.Kids.length u7] 26 (0, 0))) :: (.blk b1 (.cells #[.bool p0.Leaf, .slice A1 p0.Pairs.length u1, .slice A2 p0.Keys.length u2, .slice A3 p0.Kids.length u3] 26 (0, 0))) :: F) p2 A5 u5 A6 u6 A7 u7 hc5 e5 hc6 e6 hc7 e7 s hx17) ?_)
 intro X23 hX23
 refine fun _ _ hJ => hJ X23 ?_
 clear s
 intro I27 A73 n57 u73 cl66 A74 n58 u74 cl67 A75 n59 u75 cl68 w80 s k84 hn54 rp65 hn55 rp66 hn56 rp67
 refine hX23 _ _ ?_
 replace e4 := e4.st k84
 replace e1 := e1.st k84
 replace e2 := e2.st k84
 replace e3 := e3.st k84
 replace e5 := e5.st k84
 replace e6 := e6.st k84
 replace e7 := e7.st k84
 replace rp62 := rp62.st k84
 replace rp63 := rp63.st k84
 replace rp64 := rp64.st k84
 replace kk := kk.trans k84
 replace kS2 := kS2.trans k84
 refine ⟨fun _ => ⟨_, s.pick [8, 9, 10] 11 rfl, kS2⟩, RD.fold ?_⟩
 refine RD.op (i := 6) rfl (by kernel_rfl) (by kernel_rfl) (OK.store hT (i := 6) (b := b12) (off := 0) (n := 4) (vs := [.bool x21.Leaf, .slice A70 n54 u70, .slice A71 n55 u71, .slice A72 n56 u72]) (cs := [.bool false, .slice none 0 0, .slice none 0 0, .slice none 0 0]) (e := 26) s (by kernel_rfl) rfl rfl (flat_ok rfl) (Nat.le_of_ble_eq_true rfl) ?_)
 clear s
 rintro w81 s k85 -
 replace e4 := e4.st k85
 replace e1 := e1.st k85
 replace e2 := e2.st k85
 replace e3 := e3.st k85
 replace e5 := e5.st k85
 replace e6 := e6.st k85
 replace e7 := e7.st k85
 replace rp65 := rp65.st k85
 replace rp66 := rp66.st k85
 replace rp67 := rp67.st k85
 replace rp62 := rp62.st k85
 replace rp63 := rp63.st k85
 replace rp64 := rp64.st k85
 replace kk := kk.trans k85
 replace kS2 := kS2.trans k85
 refine ⟨fun h => absurd h (by decide), RD.fold ?_⟩
 refine RD.op (i := 7) rfl (by kernel_rfl) (by kernel_rfl) (OK.store hT (i := 7) (b := b13) (off := 0) (n := 4) (vs := [.bool x26.Leaf, .slice A73 n57 u73, .slice A74 n58 u74, .slice A75 n59 u75]) (cs := [.bool false, .slice none 0 0, .slice none 0 0, .slice none 0 0]) (e := 26) s (by kernel_rfl) rfl rfl (flat_ok rfl) (Nat.le_of_ble_eq_true rfl) ?_)
 clear s
 rintro w82 s k86 -
 replace e4 := e4.st k86
 replace e1 := e1.st k86
 replace e2 := e2.st k86
 replace e3 := e3.st k86
 replace e5 := e5.st k86
 replace e6 := e6.st k86
 replace e7 := e7.st k86
 replace rp65 := rp65.st k86
 replace rp66 := rp66.st k86
 replace rp67 := rp67.st k86
 replace rp62 := rp62.st k86
 replace rp63 := rp63.st k86
 replace rp64 := rp64.st k86
 replace kk := kk.trans k86
 replace kS2 := kS2.trans k86
 refine ⟨fun h => absurd h (by decide), RD.fold ?_⟩
 refine RD.done (by kernel_rfl) ?_
 replace s := s.pick [7, 6, 0, 1, 2, 3, 4, 5, 8] 11 rfl
 exact fun X h => kc (by kernel_rfl) rfl (h I27 x26.Leaf x26.Pairs x26.Keys x26.Kids x21.Leaf x21.Pairs x21.Keys x21.Kids b12 b13 A73 n57 u73 cl66 A74 n58 u74 cl67 A75 n59 u75 cl68 A70 n54 u70 cl63 A71 n55 u71 cl64 A72 n56 u72 cl65 _ hf s kk e4 hn54 rp65 hn55 rp66 hn56 rp67 hn51 rp62 hn52 rp63 hn53 rp64)
 refine WPK.block ?_
 refine WPK.seq ?_
 refine WPK.cut' (Kn fun D4 ds wz => ∀ X : Kont, (∀ (I28 : Nat → Prop) (x27 : Bool) (w' : World), g37_j4 p0 p1 p2 x27 = some r → St w1 M I28 ((.blk b3 (.cells #[.bool false, .slice none 0 0, .slice none 0 0, .slice none 0 0] 26 (0, 0))) :: (.blk b2 (.cells #[.bool p2.Leaf, .slice A5 p2.Pairs.length u5, .slice A6 p2.Keys.length u6, .slice A7 p2.Kids.length u7] 26 (0, 0))) :: (.blk b1 (.cells #[.bool p0.Leaf, .slice A1 p0.Pairs.length u1, .slice A2 p0.Keys.length u2, .slice A3 p0.Kids.length u3] 26 (0, 0))) :: F) w' → Kp I w I28 w' → Elems (Rp.int .u8) I28 w' A4 p1 → Elems rp_T_api_Pair I28 w' A5 p2.Pairs → Elems (Rp.slice (Rp.int .u8)) I28 w' A6 p2.Keys → Elems (Rp.int .i64) I28 w' A7 p2.Kids → Elems rp_T_api_Pair I28 w' A1 p0.Pairs → Elems (Rp.slice (Rp.int .u8)) I28 w' A2 p0.Keys → Elems (Rp.int .i64) I28 w' A3 p0.Kids → X [(gd D4 0), .slice A4 p1.length u4, (gd D4 2), .pointer (some ⟨b1, 0, none⟩), (gd D4 4), .pointer (some ⟨b2, 0, none⟩), .pointer (some ⟨b3, 0, none⟩), .int .i64 0, undef, undef, .bool x27, (gd D4 11), (gd D4 12), (gd D4 13), (gd D4 14), (gd D4 15), (gd D4 16), (gd D4 17), (gd D4 18), (gd D4 19), (gd D4 20), (gd D4 21), (gd D4 22), (gd D4 23), (gd D4 24), (gd D4 25), undef, undef, undef, undef, undef, undef, undef, undef, undef, undef, undef, undef, undef, undef, undef, undef, undef, undef, undef, undef, undef, undef, undef, undef, undef, undef, undef, undef, undef, undef, undef, undef, undef, undef, undef, undef, undef, undef, undef, undef, undef, undef, undef, undef] [] w') → X D4 ds wz) ?_ ?_
 intro X24 hX24
 refine fun D4 _ _ hJ => hJ X24 ?_
 clear s
 intro I28 x27 w83 hf s kk e4 e5 e6 e7 e1 e2 e3
 refine hX24 _ _ _ ?_
 unfold g37_j4 at hf
 by_cases h4 : x27 = true
 have hf := iteT h4 hf
 refine WPK.condT (Eq.trans (b := .bool x27) (by kernel_rfl) (b_t h4)) ?_
 refine WPK.seq ?_
 refine WPK.region ?_
 refine RW.seg hT 1 [] [] [.agg #[.bool false, .slice none 0 0, .slice none 0 0, .slice none 0 0]] [] (by kernel_rfl) (trivial) ?_
 refine RW.op (by kernel_rfl) (OK.store hT (i := 0) (b := b3) (off := 0) (n := 4) (vs := [.bool false, .slice none 0 0, .slice none 0 0, .slice none 0 0]) (cs := [.bool false, .slice none 0 0, .slice none 0 0, .slice none 0 0]) (e := 26) s (by kernel_rfl) rfl rfl (flat_ok rfl) (Nat.le_of_ble_eq_true rfl) ?_)
 clear s
 rintro w84 s k87 -
 replace e4 := e4.st k87
 replace e5 := e5.st k87
 replace e6 := e6.st k87
 replace e7 := e7.st k87
 replace e1 := e1.st k87
 replace e2 := e2.st k87
 replace e3 := e3.st k87
 replace kk := kk.trans k87
 refine RW.seg hT 1 [] [] [.int .i64 100] [] (by kernel_rfl) (trivial) ?_
 refine RW.nil ?_
 refine WPK.ret (blockQ.ret (?_))
 obtain rfl := someS hf
 refine Fin.of (rs := [.cell 6 26, .tmp 7]) hT [.agg #[.bool false, .slice none 0 0, .slice none 0 0, .slice none 0 0]] (.tuple #[.agg #[.bool false, .slice none 0 0, .slice none 0 0, .slice none 0 0], .int .i64 100]) [.cells ⟨b3, 0, none⟩ [.bool false, .slice none 0 0, .slice none 0 0, .slice none 0 0] 4] rfl (by kernel_rfl) (s.cells (i := 0) rfl rfl rfl) ?_
 replace s := s.pushNil 48 2
 replace s := s.pushNil 27 1
 replace s := s.pushNil 3 1
 replace s := s.pick [2, 1, 0] 6 rfl
 exact fun X h => vc rfl (h I28 none 0 0 [] none 0 0 [] none 0 0 [] _ s kk rfl (RepL.nil (r := rp_T_api_Pair)) rfl (RepL.nil (r := (Rp.slice (Rp.int .u8)))) rfl (RepL.nil (r := (Rp.int .i64))))
 have hf := iteF h4 hf
 refine WPK.condF (Eq.trans (b := .bool x27) (by kernel_rfl) (b_f h4)) ?_
 refine WPK.seq ?_
 refine WPK.region ?_
 refine RW.seg hT 3 [.bool p0.Leaf] [(30, .bool (decide (¬ (p0.Leaf = true))))] [.pointer (some ⟨b1, 0, none⟩), .bool p0.Leaf, .bool (decide (¬ (p0.Leaf = true)))] [.cell ⟨b1, 0, none⟩ (.bool p0.Leaf), .veq (.bool (!p0.Leaf)) (.bool (decide (¬ (p0.Leaf = true))))] (by kernel_rfl) (⟨s.cell (i := 2) (off := 0) rfl rfl, not_b⟩) ?_
 by_cases h5 : ¬ (p0.Leaf = true)
 have hf := iteT h5 hf
 refine RW.seg hT 2 [] [(31, .bool true)] [.bool true, .slice A4 p1.length u4] [.veq (.bool (decide (¬ (p0.Leaf = true)))) (.bool true)] (by kernel_rfl) (bo_t h5) ?_
 obtain ⟨x28, hx18, hf⟩ := bindS hf
 refine RW.op (by kernel_rfl) (OK.call' en78 (by kernel_rfl) (c78 (F := (.blk b3 (.cells #[.bool false, .slice none 0 0, .slice none 0 0, .slice none 0 0] 26 (0, 0))) :: (.blk b2 (.cells #[.bool p2.Leaf, .slice A5 p2.Pairs.length u5, .slice A6 p2.Keys.length u6, .slice A7 p2.Kids.length u7] 26 (0, 0))) :: (.blk b1 (.cells #[.bool p0.Leaf, .slice A1 p0.Pairs.length u1, .slice A2 p0.Keys.length u2, .slice A3 p0.Kids.length u3] 26 (0, 0))) :: F) p1 A4 u4 hc4 e4 s hx18) ?_)
 intro X25 hX25
 refine fun _ _ hJ => hJ X25 ?_
 clear s
 intro I29 w85 s k88
 refine hX25 _ _ ?_
 replace e4 := e4.st k88
 replace e5 := e5.st k88
 replace e6 := e6.st k88
 replace e7 := e7.st k88
 replace e1 := e1.st k88
 replace e2 := e2.st k88
 replace e3 := e3.st k88
 replace kk := kk.trans k88
 refine RW.seg hT 3 [] [(34, .bool (decide (¬ (x28 = true))))] [.bool (decide (¬ (x28 = true))), .bool (decide (¬ (x28 = true))), .bool (decide (¬ (x28 = true)))] [.veq (.bool (!x28)) (.bool (decide (¬ (x28 = true))))] (by kernel_rfl) (not_b) ?_
 refine RW.nil ?_
 by_cases h6 : ¬ (x28 = true)
 have hf := iteT h6 hf
 refine WPK.condT (Eq.trans (b := .bool (decide (¬ (x28 = true)))) (by kernel_rfl) (bo_t h6)) ?_
 refine WPK.seq ?_
 refine WPK.region ?_
 refine RW.seg hT 1 [] [] [.agg #[.bool false, .slice none 0 0, .slice none 0 0, .slice none 0 0]] [] (by kernel_rfl) (trivial) ?_
 refine RW.op (by kernel_rfl) (OK.store hT (i := 0) (b := b3) (off := 0) (n := 4) (vs := [.bool false, .slice none 0 0, .slice none 0 0, .slice none 0 0]) (cs := [.bool false, .slice none 0 0, .slice none 0 0, .slice none 0 0]) (e := 26) s (by kernel_rfl) rfl rfl (flat_ok rfl) (Nat.le_of_ble_eq_true rfl) ?_)
 clear s
 rintro w86 s k89 -
 replace e4 := e4.st k89
 replace e5 := e5.st k89
 replace e6 := e6.st k89
 replace e7 := e7.st k89
 replace e1 := e1.st k89
 replace e2 := e2.st k89
 replace e3 := e3.st k89
 replace kk := kk.trans k89
 refine RW.seg hT 1 [] [] [.int .i64 1] [] (by kernel_rfl) (trivial) ?_
 refine RW.nil ?_
 refine WPK.ret (blockQ.ret (?_))
 obtain rfl := someS hf
 refine Fin.of (rs := [.cell 6 26, .tmp 7]) hT [.agg #[.bool false, .slice none 0 0, .slice none 0 0, .slice none 0 0]] (.tuple #[.agg #[.bool false, .slice none 0 0, .slice none 0 0, .slice none 0 0], .int .i64 1]) [.cells ⟨b3, 0, none⟩ [.bool false, .slice none 0 0, .slice none 0 0, .slice none 0 0] 4] rfl (by kernel_rfl) (s.cells (i := 0) rfl rfl rfl) ?_
 replace s := s.pushNil 48 2
 replace s := s.pushNil 27 1
 replace s := s.pushNil 3 1
 replace s := s.pick [2, 1, 0] 6 rfl
 exact fun X h => vc rfl (h I29 none 0 0 [] none 0 0 [] none 0 0 [] _ s kk rfl (RepL.nil (r := rp_T_api_Pair)) rfl (RepL.nil (r := (Rp.slice (Rp.int .u8)))) rfl (RepL.nil (r := (Rp.int .i64))))
 have hf := iteF h6 hf
 refine WPK.condF (Eq.trans (b := .bool (decide (¬ (x28 = true)))) (by kernel_rfl) (bo_f h6)) ?_
 refine WPK.skip ?_
 exact fun X h => kc (by kernel_rfl) rfl (h I29 _ hf s kk e4 e5 e6 e7 e1 e2 e3)
 have hf := iteF h5 hf
 refine RW.seg hT 6 [] [(31, .bool false)] [.bool false, undef, undef, undef, .bool false, .bool false] [.veq (.bool (decide (¬ (p0.Leaf = true)))) (.bool false)] (by kernel_rfl) (bo_f h5) ?_
 refine RW.nil ?_
 refine WPK.condF (by kernel_rfl) ?_
 refine WPK.skip ?_
 exact fun X h => kc (by kernel_rfl) rfl (h I28 _ hf s kk e4 e5 e6 e7 e1 e2 e3)
 refine WPK.region ?_
 refine RW.seg hT 1 [.agg #[.bool p0.Leaf, .slice A1 p0.Pairs.length u1, .slice A2 p0.Keys.length u2, .slice A3 p0.Kids.length u3]] [] [.agg #[.bool p0.Leaf, .slice A1 p0.Pairs.length u1, .slice A2 p0.Keys.length u2, .slice A3 p0.Kids.length u3]] [.cells ⟨b1, 0, none⟩ [.bool p0.Leaf, .slice A1 p0.Pairs.length u1, .slice A2 p0.Keys.length u2, .slice A3 p0.Kids.length u3] 4] (by kernel_rfl) (s.cells (i := 2) rfl rfl rfl) ?_
 obtain ⟨x29, hx19, hf⟩ := bindS hf
 refine RW.op (by kernel_rfl) (OK.call' en50 (by kernel_rfl) (c50 (F := (.blk b3 (.cells #[.bool false, .slice none 0 0, .slice none 0 0, .slice none 0 0] 26 (0, 0))) :: (.blk b2 (.cells #[.bool p2.Leaf, .slice A5 p2.Pairs.length u5, .slice A6 p2.Keys.length u6, .slice A7 p2.Kids.length u7] 26 (0, 0))) :: (.blk b1 (.cells #[.bool p0.Leaf, .slice A1 p0.Pairs.length u1, .slice A2 p0.Keys.length u2, .slice A3 p0.Kids.length u3] 26 (0, 0))) :: F) p0 A1 u1 A2 u2 A3 u3 hc1 e1 hc2 e2 hc3 e3 s hx19) ?_)
 intro X26 hX26
 refine fun _ _ hJ => hJ X26 ?_
 clear s
 intro I30 w87 s k90
 refine hX26 _ _ ?_
 replace e1 := e1.st k90
 replace e2 := e2.st k90
 replace e3 := e3.st k90
 replace e4 := e4.st k90
 replace e5 := e5.st k90
 replace e6 := e6.st k90
 replace e7 := e7.st k90
 replace kk := kk.trans k90
 refine RW.seg hT 1 [] [(13, .bool (decide (¬ (x29 = true))))] [.bool (decide (¬ (x29 = true)))] [.veq (.bool (!x29)) (.bool (decide (¬ (x29 = true))))] (by kernel_rfl) (not_b) ?_
 by_cases h7 : ¬ (x29 = true)
 have hf := iteT h7 hf
 refine RW.seg hT 13 [] [(14, .bool true)] [.bool true, undef, undef, undef, .bool true, .bool true, undef, undef, undef, undef, undef, .bool true, .bool true] [.veq (.bool (decide (¬ (x29 = true)))) (.bool true)] (by kernel_rfl) (bo_t h7) ?_
 refine RW.nil ?_
 exact fun X h => kc (by kernel_rfl) rfl (h I30 true _ hf s kk e4 e5 e6 e7 e1 e2 e3)
 have hf := iteF h7 hf
 refine RW.seg hT 2 [.agg #[.bool p2.Leaf, .slice A5 p2.Pairs.length u5, .slice A6 p2.Keys.length u6, .slice A7 p2.Kids.length u7]] [(14, .bool false)] [.bool false, .agg #[.bool p2.Leaf, .slice A5 p2.Pairs.length u5, .slice A6 p2.Keys.length u6, .slice A7 p2.Kids.length u7]] [.veq (.bool (decide (¬ (x29 = true)))) (.bool false), .cells ⟨b2, 0, none⟩ [.bool p2.Leaf, .slice A5 p2.Pairs.length u5, .slice A6 p2.Keys.length u6, .slice A7 p2.Kids.length u7] 4] (by kernel_rfl) (⟨bo_f h7, s.cells (i := 1) rfl rfl rfl⟩) ?_
 obtain ⟨x30, hx20, hf⟩ := bindS hf
 refine RW.op (by kernel_rfl) (OK.call' en50 (by kernel_rfl) (c50 (F := (.blk b3 (.cells #[.bool false, .slice none 0 0, .slice none 0 0, .slice none 0 0] 26 (0, 0))) :: (.blk b2 (.cells #[.bool p2.Leaf, .slice A5 p2.Pairs.length u5, .slice A6 p2.Keys.length u6, .slice A7 p2.Kids.length u7] 26 (0, 0))) :: (.blk b1 (.cells #[.bool p0.Leaf, .slice A1 p0.Pairs.length u1, .slice A2 p0.Keys.length u2, .slice A3 p0.Kids.length u3] 26 (0, 0))) :: F) p2 A5 u5 A6 u6 A7 u7 hc5 e5 hc6 e6 hc7 e7 s hx20) ?_)
 intro X27 hX27
 refine fun _ _ hJ => hJ X27 ?_
 clear s
 intro I31 w88 s k91
 refine hX27 _ _ ?_
 replace e1 := e1.st k91
 replace e2 := e2.st k91
 replace e3 := e3.st k91
 replace e4 := e4.st k91
 replace e5 := e5.st k91
 replace e6 := e6.st k91
 replace e7 := e7.st k91
 replace kk := kk.trans k91
 refine RW.seg hT 2 [] [(17, .bool (decide (¬ (x30 = true))))] [.bool (decide (¬ (x30 = true))), .bool (decide (¬ (x30 = true)))] [.veq (.bool (!x30)) (.bool (decide (¬ (x30 = true))))] (by kernel_rfl) (not_b) ?_
 by_cases h8 : ¬ (x30 = true)
 have hf := iteT h8 hf
 refine RW.seg hT 8 [] [(19, .bool true)] [.bool true, undef, undef, undef, undef, undef, .bool true, .bool true] [.veq (.bool (decide (¬ (x30 = true)))) (.bool true)] (by kernel_rfl) (bo_t h8) ?_
 refine RW.nil ?_
 exact fun X h => kc (by kernel_rfl) rfl (h I31 true _ hf s kk e4 e5 e6 e7 e1 e2 e3)
 have hf := iteF h8 hf
 refine RW.seg hT 8 [.bool p0.Leaf, .bool p2.Leaf] [(19, .bool false), (24, .bool (decide (p0.Leaf ≠ p2.Leaf)))] [.bool false, .pointer (some ⟨b1, 0, none⟩), .bool p0.Leaf, .pointer (some ⟨b2, 0, none⟩), .bool p2.Leaf, .bool (decide (p0.Leaf ≠ p2.Leaf)), .bool (decide (p0.Leaf ≠ p2.Leaf)), .bool (decide (p0.Leaf ≠ p2.Leaf))] [.veq (.bool (decide (¬ (x30 = true)))) (.bool false), .cell ⟨b1, 0, none⟩ (.bool p0.Leaf), .cell ⟨b2, 0, none⟩ (.bool p2.Leaf), .veq (.bool (!(p0.Leaf == p2.Leaf))) (.bool (decide (p0.Leaf ≠ p2.Leaf)))] (by kernel_rfl) (⟨bo_f h8, s.cell (i := 2) (off := 0) rfl rfl, s.cell (i := 1) (off := 0) rfl rfl, bne_v⟩) ?_
 refine RW.nil ?_
 exact fun X h => kc (by kernel_rfl) rfl (h I31 (decide (p0.Leaf ≠ p2.Leaf)) _ hf s kk e4 e5 e6 e7 e1 e2 e3)
theorem c80 {w1 w : World} {M I : Nat → Prop} {F : List It} (p0 : T_api_Node) (A1 : Option Addr) (u1 : Nat) (A2 : Option Addr) (u2 : Nat) (A3 : Option Addr) (u3 : Nat) (hc1 : (p0.Pairs.length ≤ u1 ∧ u1 ≤ 9223372036854775807)) (e1 : Elems rp_T_api_Pair I w A1 p0.Pairs) (hc2 : (p0.Keys.length ≤ u2 ∧ u2 ≤ 9223372036854775807)) (e2 : Elems (Rp.slice (Rp.int .u8)) I w A2 p0.Keys) (hc3 : (p0.Kids.length ≤ u3 ∧ u3 ≤ 9223372036854775807)) (e3 : Elems (Rp.int .i64) I w A3 p0.Kids) (s : St w1 M I (F) w) {r : (T_api_Node × Int)} (hf : g80 p0 = some r) :
   Ret Try.prog 80 [.agg #[.bool p0.Leaf, .slice A1 p0.Pairs.length u1, .slice A2 p0.Keys.length u2, .slice A3 p0.Kids.length u3]] w fun v wz => ∀ X : Value → World → Prop, (∀ (I' : Nat → Prop) (A4 : Option Addr) (n1 : Nat) (u4 : Nat) (cl1 : List Value) (A5 : Option Addr) (n2 : Nat) (u5 : Nat) (cl2 : List Value) (A6 : Option Addr) (n3 : Nat) (u6 : Nat) (cl3 : List Value) (w' : World), St w1 M I' ((.sl (.slice A4 n1 u4) 48 2 n1 cl1) :: (.sl (.slice A5 n2 u5) 27 1 n2 cl2) :: (.sl (.slice A6 n3 u6) 3 1 n3 cl3) :: F) w' → Kp I w I' w' → n1 = r.1.Pairs.length → RepL rp_T_api_Pair I' w' cl1 r.1.Pairs → n2 = r.1.Keys.length → RepL (Rp.slice (Rp.int .u8)) I' w' cl2 r.1.Keys → n3 = r.1.Kids.length → RepL (Rp.int .i64) I' w' cl3 r.1.Kids → X (.tuple #[.agg #[.bool r.1.Leaf, .slice A4 n1 u4, .slice A5 n2 u5, .slice A6 n3 u6], .int .i64 r.2]) w') → X v wz := by
 have kk : Kp I w I w := Kp.refl
 unfold g80 at hf
 refine Ret.of Try.func80 rfl ?_
 refine WPK.seq ?_
 refine WPK.region ?_
 refine RW.op (by kernel_rfl) (OK.new hT (f := fun b => .pointer (some ⟨b, 0, none⟩)) (cs := [.bool p0.Leaf, .slice A1 p0.Pairs.length u1, .slice A2 p0.Keys.length u2, .slice A3 p0.Kids.length u3]) (e := 26) (c := .tt) s (by kernel_rfl) trivial ?_)
 clear s
 rintro w2 b1 s k1 -
 replace e1 := e1.st k1
 replace e2 := e2.st k1
 replace e3 := e3.st k1
 replace kk := kk.trans k1
 refine RW.op (by kernel_rfl) (OK.new hT (f := fun b => .pointer (some ⟨b, 0, none⟩)) (cs := [.bool false, .slice none 0 0, .slice none 0 0, .slice none 0 0]) (e := 26) (c := .tt) s (by kernel_rfl) trivial ?_)
 clear s
 rintro w3 b2 s k2 -
 replace e1 := e1.st k2
 replace e2 := e2.st k2
 replace e3 := e3.st k2
 replace kk := kk.trans k2
 refine RW.seg hT 1 [] [] [.int .i64 0] [] (by kernel_rfl) (trivial) ?_
 refine RW.nil ?_
 refine WPK.seq ?_
 refine WPK.seq ?_
 refine WPK.region ?_
 refine RW.seg hT 1 [.agg #[.bool p0.Leaf, .slice A1 p0.Pairs.length u1, .slice A2 p0.Keys.length u2, .slice A3 p0.Kids.length u3]] [] [.agg #[.bool p0.Leaf, .slice A1 p0.Pairs.length u1, .slice A2 p0.Keys.length u2, .slice A3 p0.Kids.length u3]] [.cells ⟨b1, 0, none⟩ [.bool p0.Leaf, .slice A1 p0.Pairs.length u1, .slice A2 p0.Keys.length u2, .slice A3 p0.Kids.length u3] 4] (by kernel_rfl) (s.cells (i := 1) rfl rfl rfl) ?_
 obtain ⟨x1, hx1, hf⟩ := bindS hf
 refine RW.op (by kernel_rfl) (OK.call' en18 (by kernel_rfl) (c18 (F := (.blk b2 (.cells #[.bool false, .slice none 0 0, .slice none 0 0, .slice none 0 0] 26 (0, 0))) :: (.blk b1 (.cells #[.bool p0.Leaf, .slice A1 p0.Pairs.length u1, .slice A2 p0.Keys.length u2, .slice A3 p0.Kids.length u3] 26 (0, 0))) :: F) p0 A1 u1 A2 u2 A3 u3 hc1 e1 hc2 e2 hc3 e3 s hx1) ?_)
 intro X1 hX1
 refine fun _ _ hJ => hJ X1 ?_
 clear s
 intro I1 w4 s k3
 refine hX1 _ _ ?_
 replace e1 := e1.st k3
 replace e2 := e2.st k3
 replace e3 := e3.st k3
 replace kk := kk.trans k3
 refine RW.seg hT 1 [] [(6, .bool (decide (¬ (x1 = true))))] [.bool (decide (¬ (x1 = true)))] [.veq (.bool (!x1)) (.bool (decide (¬ (x1 = true))))] (by kernel_rfl) (not_b) ?_
 refine RW.nil ?_
 by_cases h1 : ¬ (x1 = true)
 have hf := iteT h1 hf
 refine WPK.condT (Eq.trans (b := .bool (decide (¬ (x1 = true)))) (by kernel_rfl) (bo_t h1)) ?_
 refine WPK.seq ?_
 refine WPK.region ?_
 refine RW.seg hT 1 [] [] [.agg #[.bool false, .slice none 0 0, .slice none 0 0, .slice none 0 0]] [] (by kernel_rfl) (trivial) ?_
 refine RW.op (by kernel_rfl) (OK.store hT (i := 0) (b := b2) (off := 0) (n := 4) (vs := [.bool false, .slice none 0 0, .slice none 0 0, .slice none 0 0]) (cs := [.bool false, .slice none 0 0, .slice none 0 0, .slice none 0 0]) (e := 26) s (by kernel_rfl) rfl rfl (flat_ok rfl) (Nat.le_of_ble_eq_true rfl) ?_)
 clear s
 rintro w5 s k4 -
 replace e1 := e1.st k4
 replace e2 := e2.st k4
 replace e3 := e3.st k4
 replace kk := kk.trans k4
 refine RW.seg hT 1 [] [] [.int .i64 100] [] (by kernel_rfl) (trivial) ?_
 refine RW.nil ?_
 refine WPK.ret (?_)
 obtain rfl := someS hf
 refine Fin.of (rs := [.cell 2 26, .tmp 3]) hT [.agg #[.bool false, .slice none 0 0, .slice none 0 0, .slice none 0 0]] (.tuple #[.agg #[.bool false, .slice none 0 0, .slice none 0 0, .slice none 0 0], .int .i64 100]) [.cells ⟨b2, 0, none⟩ [.bool false, .slice none 0 0, .slice none 0 0, .slice none 0 0] 4] rfl (by kernel_rfl) (s.cells (i := 0) rfl rfl rfl) ?_
 replace s := s.pushNil 48 2
 replace s := s.pushNil 27 1
 replace s := s.pushNil 3 1
 replace s := s.pick [2, 1, 0] 5 rfl
 exact fun X h => vc rfl (h I1 none 0 0 [] none 0 0 [] none 0 0 [] _ s kk rfl (RepL.nil (r := rp_T_api_Pair)) rfl (RepL.nil (r := (Rp.slice (Rp.int .u8)))) rfl (RepL.nil (r := (Rp.int .i64))))
 have hf := iteF h1 hf
 refine WPK.condF (Eq.trans (b := .bool (decide (¬ (x1 = true)))) (by kernel_rfl) (bo_f h1)) ?_
 refine WPK.skip ?_
 refine WPK.seq ?_
 refine WPK.region ?_
 refine RW.seg hT 1 [.agg #[.bool p0.Leaf, .slice A1 p0.Pairs.length u1, .slice A2 p0.Keys.length u2, .slice A3 p0.Kids.length u3]] [] [.agg #[.bool p0.Leaf, .slice A1 p0.Pairs.length u1, .slice A2 p0.Keys.length u2, .slice A3 p0.Kids.length u3]] [.cells ⟨b1, 0, none⟩ [.bool p0.Leaf, .slice A1 p0.Pairs.length u1, .slice A2 p0.Keys.length u2, .slice A3 p0.Kids.length u3] 4] (by kernel_rfl) (s.cells (i := 1) rfl rfl rfl) ?_
 obtain ⟨x2, hx2, hf⟩ := bindS hf
 refine RW.op (by kernel_rfl) (OK.call' en24 (by kernel_rfl) (c24 (F := (.blk b2 (.cells #[.bool false, .slice none 0 0, .slice none 0 0, .slice none 0 0] 26 (0, 0))) :: (.blk b1 (.cells #[.bool p0.Leaf, .slice A1 p0.Pairs.length u1, .slice A2 p0.Keys.length u2, .slice A3 p0.Kids.length u3] 26 (0, 0))) :: F) p0 A1 u1 A2 u2 A3 u3 hc1 e1 hc2 e2 hc3 e3 s hx2) ?_)
 intro X2 hX2
 refine fun _ _ hJ => hJ X2 ?_
 clear s
 intro I2 A7 n4 u7 cl4 A8 n5 u8 cl5 A9 n6 u9 cl6 w6 s k5 hn1 rp1 hn2 rp2 hn3 rp3
 refine hX2 _ _ ?_
 replace e1 := e1.st k5
 replace e2 := e2.st k5
 replace e3 := e3.st k5
 replace kk := kk.trans k5
 refine RW.op (by kernel_rfl) (OK.store hT (i := 3) (b := b2) (off := 0) (n := 4) (vs := [.bool x2.Leaf, .slice A7 n4 u7, .slice A8 n5 u8, .slice A9 n6 u9]) (cs := [.bool false, .slice none 0 0, .slice none 0 0, .slice none 0 0]) (e := 26) s (by kernel_rfl) rfl rfl (flat_ok rfl) (Nat.le_of_ble_eq_true rfl) ?_)
 clear s
 rintro w7 s k6 -
 replace e1 := e1.st k6
 replace e2 := e2.st k6
 replace e3 := e3.st k6
 replace rp1 := rp1.st k6
 replace rp2 := rp2.st k6
 replace rp3 := rp3.st k6
 replace kk := kk.trans k6
 refine RW.seg hT 1 [] [] [.int .i64 0] [] (by kernel_rfl) (trivial) ?_
 refine RW.nil ?_
 refine WPK.ret (?_)
 obtain rfl := someS hf
 refine Fin.of (rs := [.cell 2 26, .tmp 3]) hT [.agg #[.bool x2.Leaf, .slice A7 n4 u7, .slice A8 n5 u8, .slice A9 n6 u9]] (.tuple #[.agg #[.bool x2.Leaf, .slice A7 n4 u7, .slice A8 n5 u8, .slice A9 n6 u9], .int .i64 0]) [.cells ⟨b2, 0, none⟩ [.bool x2.Leaf, .slice A7 n4 u7, .slice A8 n5 u8, .slice A9 n6 u9] 4] rfl (by kernel_rfl) (s.cells (i := 3) rfl rfl rfl) ?_
 replace s := s.pick [0, 1, 2] 5 rfl
 exact fun X h => vc rfl (h I2 A7 n4 u7 cl4 A8 n5 u8 cl5 A9 n6 u9 cl6 _ s kk hn1 rp1 hn2 rp2 hn3 rp3)
end Go.Proofs.Ytefjbhogpgihaaa
