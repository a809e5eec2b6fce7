/- PRINTED BY sy.py: each call computes what the plain function of its number tells. -/
import Derived.Test.YtefjbhogpgihaaaW4
namespace Go.Proofs.Ytefjbhogpgihaaa
open Go Go.SX Go.RowKit
set_option maxRecDepth 100000
set_option linter.unusedVariables false
attribute [local irreducible] WPK RW RD Ret SX.Fin SX.Any opK RoundBeg RoundEnd RangeEnd Rounds
theorem c33 {w1 w : World} {M I : Nat → Prop} {F : List It} (p0 : Int) (p1 : (List Int)) (A1 : Option Addr) (u1 : Nat) (hc1 : (p1.length ≤ u1 ∧ u1 ≤ 9223372036854775807)) (e1 : Elems (Rp.int .u8) I w A1 p1) (s : St w1 M I (F) w) {r : (T_api_Node × Int)} (hf : g33 p0 p1 = some r) :
    Ret Try.prog 33 [.int .i64 p0, .slice A1 p1.length u1] w fun v wz => ∀ X : Value → World → Prop, (∀ (I' : Nat → Prop) (A2 : Option Addr) (n1 : Nat) (u2 : Nat) (cl1 : List Value) (A3 : Option Addr) (n2 : Nat) (u3 : Nat) (cl2 : List Value) (A4 : Option Addr) (n3 : Nat) (u4 : Nat) (cl3 : List Value) (w' : World), St w1 M I' ((.sl (.slice A2 n1 u2) 48 2 n1 cl1) :: (.sl (.slice A3 n2 u3) 27 1 n2 cl2) :: (.sl (.slice A4 n3 u4) 3 1 n3 cl3) :: F) w' → Kp I w I' w' → n1 = r.1.Pairs.length → RepL rp_T_api_Pair I' w' cl1 r.1.Pairs → n2 = r.1.Keys.length → RepL (Rp.slice (Rp.int .u8)) I' w' cl2 r.1.Keys → n3 = r.1.Kids.length → RepL (Rp.int .i64) I' w' cl3 r.1.Kids → X (.tuple #[.agg #[.bool r.1.Leaf, .slice A2 n1 u2, .slice A3 n2 u3, .slice A4 n3 u4], .int .i64 r.2]) w') → X v wz := by
  have kk : Kp I w I w := Kp.refl
  unfold g33 at hf
  refine Ret.of Try.func33 rfl ?_
  refine WPK.seq ?_
  refine WPK.region ?_
  refine RW.op (by kernel_rfl) (OK.new hT (f := fun b => .pointer (some ⟨b, 0, none⟩)) (cs := [.bool false, .slice none 0 0, .slice none 0 0, .slice none 0 0]) (e := 26) (c := .tt) s (by kernel_rfl) trivial ?_)
  clear s
  rintro w2 b1 s k1 -
  replace e1 := e1.st k1
  replace kk := kk.trans k1
  refine RW.seg hT 1 [] [] [.int .i64 0] [] (by kernel_rfl) (trivial) ?_
  refine RW.nil ?_
  refine WPK.seq ?_
  refine WPK.cut' (Kn fun D1 ds wz => ∀ X : Kont, (g33_j1 p0 p1 = some r → X [.int .i64 p0, .slice A1 p1.length u1, (D1.getD 2 undef), (D1.getD 3 undef), .pointer (some ⟨b1, 0, none⟩), .int .i64 0, undef, undef, undef, undef, undef, (D1.getD 11 undef), undef, undef, (D1.getD 14 undef), (D1.getD 15 undef), (D1.getD 16 undef), (D1.getD 17 undef), (D1.getD 18 undef), (D1.getD 19 undef), (D1.getD 20 undef), undef, undef, undef, undef, undef, undef, undef, undef, undef, undef, undef, undef, undef, undef, undef, undef, undef, undef, undef, undef, undef, undef, undef, undef, undef, undef, undef, undef, undef, undef, undef, undef, undef, undef, undef, undef, undef, undef, undef, undef, undef, undef, undef, undef, undef, undef, undef, undef, undef, undef, undef, undef, undef, undef, undef, undef, undef, undef, undef, undef, undef, undef, undef, undef, undef, undef, undef, undef, undef, undef, undef, undef, undef, undef, undef, undef, undef, undef] [] w2) → X D1 ds wz) ?_ ?_
  intro X1 hX1
  refine fun D1 _ _ hJ => hJ X1 ?_
  intro hf
  refine hX1 _ _ _ ?_
  unfold g33_j1 at hf
  refine WPK.seq ?_
  refine WPK.region ?_
  refine RW.seg hT 2 [] [] [.slice A1 p1.length u1, .agg #[.slice A1 p1.length u1, .int .i64 0]] [] (by kernel_rfl) (trivial) ?_
  refine RW.op (by kernel_rfl) (OK.new hT (f := fun b => .pointer (some ⟨b, 0, none⟩)) (cs := [.slice A1 p1.length u1, .int .i64 0]) (e := 89) (c := .tt) s (by kernel_rfl) trivial ?_)
  clear s
  rintro w3 b2 s k2 -
  replace e1 := e1.st k2
  replace kk := kk.trans k2
  refine RW.seg hT 1 [] [] [.pointer (some ⟨b2, 0, none⟩)] [] (by kernel_rfl) (trivial) ?_
  refine RW.nil ?_
  refine WPK.seq ?_
  refine WPK.region ?_
  refine RW.seg hT 3 [] [(25, .bool (decide (p0 = 3)))] [.int .i64 p0, .bool (decide (p0 = 3)), .agg #[.bool (decide (p0 = 3)), .slice none 0 0, .slice none 0 0, .slice none 0 0]] [.veq (.bool (p0 == 3)) (.bool (decide (p0 = 3)))] (by kernel_rfl) (eq_v) ?_
  refine RW.op (by kernel_rfl) (OK.new hT (f := fun b => .pointer (some ⟨b, 0, none⟩)) (cs := [.bool false, .slice none 0 0, .slice none 0 0, .slice none 0 0]) (e := 26) (c := .tt) s (by kernel_rfl) trivial ?_)
  clear s
  rintro w4 b3 s k3 -
  replace e1 := e1.st k3
  replace kk := kk.trans k3
  refine RW.op (by kernel_rfl) (OK.store hT (i := 0) (b := b3) (off := 0) (n := 4) (vs := [.bool (decide (p0 = 3)), .slice none 0 0, .slice none 0 0, .slice none 0 0]) (cs := [.bool false, .slice none 0 0, .slice none 0 0, .slice none 0 0]) (e := 26) s (by kernel_rfl) rfl rfl (flat_ok rfl) (Nat.le_of_ble_eq_true rfl) ?_)
  clear s
  rintro w5 s k4 -
  replace e1 := e1.st k4
  replace kk := kk.trans k4
  refine RW.nil ?_
  refine WPK.seq ?_
  refine WPK.region ?_
  refine RW.seg hT 1 [] [] [.pointer (some ⟨b2, 0, none⟩)] [] (by kernel_rfl) (trivial) ?_
  replace s := s.pick [1, 0, 2] 3 rfl
  obtain ⟨x1, hx1, hf⟩ := bindS hf
  refine RW.op (by kernel_rfl) (OK.call' en73 (by kernel_rfl) (c73 (F := (.blk b3 (.cells #[.bool (decide (p0 = 3)), .slice none 0 0, .slice none 0 0, .slice none 0 0] 26 (0, 0))) :: (.blk b1 (.cells #[.bool false, .slice none 0 0, .slice none 0 0, .slice none 0 0] 26 (0, 0))) :: F) (T_incipitref10_taker.mk p1 0) b2 A1 u1 hc1 e1 s hx1) ?_)
  intro X2 hX2
  refine fun _ _ hJ => hJ X2 ?_
  clear s
  intro I1 A5 u5 w6 s k5 hc2 e2
  refine hX2 _ _ ?_
  replace e1 := e1.st k5
  replace kk := kk.trans k5
  refine RW.seg hT 1 [] [] [.int .i64 x1.1] [] (by kernel_rfl) (trivial) ?_
  refine RW.nil ?_
  refine WPK.seq ?_
  refine WPK.cut' (Kn fun D2 ds wz => ∀ X : Kont, (∀ (I2 : Nat → Prop) (x2 : (List Int)) (x3 : Int) (x4 : (List Int)) (A6 : Option Addr) (u6 : Nat) (A7 : Option Addr) (u7 : Nat) (cl4 : List Value) (w' : World), g33_j2 p0 p1 x1 x2 x3 x4 = some r → St w1 M I2 ((.sl (.slice A7 x4.length u7) 3 1 x4.length cl4) :: (.blk b2 (.cells #[.slice A6 x2.length u6, .int .i64 x3] 89 (0, 0))) :: (.blk b3 (.cells #[.bool (decide (p0 = 3)), .slice none 0 0, .slice none 0 0, .slice A7 x4.length u7] 26 (0, 0))) :: (.blk b1 (.cells #[.bool false, .slice none 0 0, .slice none 0 0, .slice none 0 0] 26 (0, 0))) :: F) w' → Kp I w I2 w' → Elems (Rp.int .u8) I2 w' A1 p1 → (x2.length ≤ u6 ∧ u6 ≤ 9223372036854775807) → Elems (Rp.int .u8) I2 w' A6 x2 → RepL (Rp.int .i64) I2 w' cl4 x4 → X [(D2.getD 0 undef), .slice A1 p1.length u1, (D2.getD 2 undef), (D2.getD 3 undef), .pointer (some ⟨b1, 0, none⟩), .int .i64 0, .pointer (some ⟨b2, 0, none⟩), .pointer (some ⟨b3, 0, none⟩), .int .i64 x1.1, undef, undef, (D2.getD 11 undef), undef, undef, (D2.getD 14 undef), (D2.getD 15 undef), (D2.getD 16 undef), (D2.getD 17 undef), (D2.getD 18 undef), (D2.getD 19 undef), (D2.getD 20 undef), (D2.getD 21 undef), (D2.getD 22 undef), (D2.getD 23 undef), (D2.getD 24 undef), (D2.getD 25 undef), (D2.getD 26 undef), (D2.getD 27 undef), (D2.getD 28 undef), (D2.getD 29 undef), (D2.getD 30 undef), (D2.getD 31 undef), (D2.getD 32 undef), (D2.getD 33 undef), (D2.getD 34 undef), (D2.getD 35 undef), (D2.getD 36 undef), (D2.getD 37 undef), (D2.getD 38 undef), (D2.getD 39 undef), (D2.getD 40 undef), (D2.getD 41 undef), (D2.getD 42 undef), undef, undef, undef, undef, undef, undef, undef, undef, undef, undef, undef, undef, undef, undef, undef, undef, undef, undef, undef, undef, undef, undef, undef, undef, undef, undef, undef, undef, undef, undef, undef, undef, undef, undef, undef, undef, undef, undef, undef, undef, undef, undef, undef, undef, undef, undef, undef, undef, undef, undef, undef, undef, undef, undef, undef, undef] [] w') → X D2 ds wz) ?_ ?_
  intro X3 hX3
  refine fun D2 _ _ hJ => hJ X3 ?_
  clear s
  intro I2 x2 x3 x4 A6 u6 A7 u7 cl4 w7 hf s kk e1 hc3 e3 rp1
  refine hX3 _ _ _ ?_
  unfold g33_j2 at hf
  refine WPK.seq ?_
  refine WPK.seq ?_
  refine WPK.region ?_
  refine RW.seg hT 1 [] [] [.int .i64 0] [] (by kernel_rfl) (trivial) ?_
  refine RW.nil ?_
  refine WPK.block ?_
  replace s := s.pushNil 48 2
  replace s := s.pushNil 27 1
  replace s := s.pick [2, 3, 4, 5, 1, 0] 6 rfl
  refine WPK.loop' (J := fun n4 D3 ds wz => ∀ X : Kont, (∀ (I3 : Nat → Prop) (x5 : Int) (x6 : (List Int)) (x7 : Int) (x8 : (List T_api_Pair)) (x9 : (List (List Int))) (x10 : (List Int)) (A8 : Option Addr) (u8 : Nat) (A9 : Option Addr) (u9 : Nat) (cl5 : List Value) (A10 : Option Addr) (u10 : Nat) (cl6 : List Value) (A11 : Option Addr) (u11 : Nat) (cl7 : List Value) (w' : World), g33_l3 p0 p1 x1 n4 x5 x6 x7 x8 x9 x10 = some r → St w1 M I3 ((.sl (.slice A11 x10.length u11) 3 1 x10.length cl7) :: (.blk b2 (.cells #[.slice A8 x6.length u8, .int .i64 x7] 89 (0, 0))) :: (.blk b3 (.cells #[.bool (decide (p0 = 3)), .slice A9 x8.length u9, .slice A10 x9.length u10, .slice A11 x10.length u11] 26 (0, 0))) :: (.blk b1 (.cells #[.bool false, .slice none 0 0, .slice none 0 0, .slice none 0 0] 26 (0, 0))) :: (.sl (.slice A9 x8.length u9) 48 2 x8.length cl5) :: (.sl (.slice A10 x9.length u10) 27 1 x9.length cl6) :: F) w' → Kp I w I3 w' → Elems (Rp.int .u8) I3 w' A1 p1 → (x6.length ≤ u8 ∧ u8 ≤ 9223372036854775807) → Elems (Rp.int .u8) I3 w' A8 x6 → RepL rp_T_api_Pair I3 w' cl5 x8 → RepL (Rp.slice (Rp.int .u8)) I3 w' cl6 x9 → RepL (Rp.int .i64) I3 w' cl7 x10 → X [(D3.getD 0 undef), .slice A1 p1.length u1, (D3.getD 2 undef), (D3.getD 3 undef), .pointer (some ⟨b1, 0, none⟩), .int .i64 0, .pointer (some ⟨b2, 0, none⟩), .pointer (some ⟨b3, 0, none⟩), .int .i64 x1.1, .int .i64 x5, (D3.getD 10 undef), (D3.getD 11 undef), undef, undef, (D3.getD 14 undef), (D3.getD 15 undef), (D3.getD 16 undef), (D3.getD 17 undef), (D3.getD 18 undef), (D3.getD 19 undef), (D3.getD 20 undef), (D3.getD 21 undef), (D3.getD 22 undef), (D3.getD 23 undef), (D3.getD 24 undef), (D3.getD 25 undef), (D3.getD 26 undef), (D3.getD 27 undef), (D3.getD 28 undef), (D3.getD 29 undef), (D3.getD 30 undef), (D3.getD 31 undef), (D3.getD 32 undef), (D3.getD 33 undef), (D3.getD 34 undef), (D3.getD 35 undef), (D3.getD 36 undef), (D3.getD 37 undef), (D3.getD 38 undef), (D3.getD 39 undef), (D3.getD 40 undef), (D3.getD 41 undef), (D3.getD 42 undef), (D3.getD 43 undef), (D3.getD 44 undef), (D3.getD 45 undef), (D3.getD 46 undef), (D3.getD 47 undef), (D3.getD 48 undef), (D3.getD 49 undef), (D3.getD 50 undef), (D3.getD 51 undef), (D3.getD 52 undef), (D3.getD 53 undef), (D3.getD 54 undef), (D3.getD 55 undef), (D3.getD 56 undef), (D3.getD 57 undef), (D3.getD 58 undef), (D3.getD 59 undef), (D3.getD 60 undef), (D3.getD 61 undef), (D3.getD 62 undef), (D3.getD 63 undef), (D3.getD 64 undef), (D3.getD 65 undef), (D3.getD 66 undef), (D3.getD 67 undef), (D3.getD 68 undef), (D3.getD 69 undef), (D3.getD 70 undef), (D3.getD 71 undef), (D3.getD 72 undef), (D3.getD 73 undef), (D3.getD 74 undef), (D3.getD 75 undef), (D3.getD 76 undef), (D3.getD 77 undef), (D3.getD 78 undef), (D3.getD 79 undef), (D3.getD 80 undef), (D3.getD 81 undef), undef, undef, undef, undef, undef, undef, undef, undef, undef, undef, undef, undef, undef, undef, undef, undef, undef] [] w') → X D3 ds wz) FUEL (fun X h => kc (by kernel_rfl) rfl (h I2 0 x2 x3 ([] : List T_api_Pair) ([] : List (List Int)) x4 A6 u6 none 0 [] none 0 [] A7 u7 cl4 _ hf s kk e1 hc3 e3 (RepL.nil (r := rp_T_api_Pair)) (RepL.nil (r := (Rp.slice (Rp.int .u8)))) rp1)) (fun _ _ _ hJ => hJ (fun _ _ _ => False) (by intro I3 x5 x6 x7 x8 x9 x10 A8 u8 A9 u9 cl5 A10 u10 cl6 A11 u11 cl7 w8 hf s kk e1 hc4 e4 rp2 rp3 rp4; exact noneS hf)) ?_
  intro X4 hX4
  refine fun n4 D3 _ _ hJ => hJ (X4 n4) ?_
  clear s
  intro I3 x5 x6 x7 x8 x9 x10 A8 u8 A9 u9 cl5 A10 u10 cl6 A11 u11 cl7 w8 hf s kk e1 hc4 e4 rp2 rp3 rp4
  refine hX4 _ _ _ _ ?_
  replace hf : g33_l3B p0 p1 x1 (g33_l3 p0 p1 x1 n4) x5 x6 x7 x8 x9 x10 = some r := hf
  generalize hrec1 : g33_l3 p0 p1 x1 n4 = rec1 at hf
  unfold g33_l3B at hf
  refine WPK.seq ?_
  refine WPK.seq ?_
  refine WPK.region ?_
  refine RW.seg hT 3 [] [] [.int .i64 x5, .int .i64 x1.1, .bool (decide (x5 < x1.1))] [] (by kernel_rfl) (trivial) ?_
  refine RW.nil ?_
  by_cases h1 : x5 < x1.1
  have hf := iteT h1 hf
  refine WPK.condT (Eq.trans (b := .bool (decide (x5 < x1.1))) (by kernel_rfl) (bo_t h1)) ?_
  refine WPK.skip ?_
  refine WPK.seq ?_
  refine WPK.cut' (Kn fun D4 ds wz => ∀ X : Kont, (∀ (I4 : Nat → Prop) (x11 : (List Int)) (x12 : Int) (x13 : (List Int)) (x14 : (List Int)) (x15 : Int) (x16 : (List T_api_Pair)) (x17 : (List (List Int))) (x18 : (List Int)) (A12 : Option Addr) (u12 : Nat) (A13 : Option Addr) (u13 : Nat) (A14 : Option Addr) (u14 : Nat) (A15 : Option Addr) (u15 : Nat) (cl8 : List Value) (A16 : Option Addr) (u16 : Nat) (cl9 : List Value) (A17 : Option Addr) (u17 : Nat) (cl10 : List Value) (w' : World), g33_j4 x5 rec1 x11 x12 x13 x14 x15 x16 x17 x18 = some r → St w1 M I4 ((.blk b2 (.cells #[.slice A14 x14.length u14, .int .i64 x15] 89 (0, 0))) :: (.sl (.slice A17 x18.length u17) 3 1 x18.length cl10) :: (.blk b3 (.cells #[.bool (decide (p0 = 3)), .slice A15 x16.length u15, .slice A16 x17.length u16, .slice A17 x18.length u17] 26 (0, 0))) :: (.blk b1 (.cells #[.bool false, .slice none 0 0, .slice none 0 0, .slice none 0 0] 26 (0, 0))) :: (.sl (.slice A15 x16.length u15) 48 2 x16.length cl8) :: (.sl (.slice A16 x17.length u16) 27 1 x17.length cl9) :: F) w' → Kp I w I4 w' → Elems (Rp.int .u8) I4 w' A1 p1 → (x11.length ≤ u12 ∧ u12 ≤ 9223372036854775807) → Elems (Rp.int .u8) I4 w' A12 x11 → (x13.length ≤ u13 ∧ u13 ≤ 9223372036854775807) → Elems (Rp.int .u8) I4 w' A13 x13 → (x14.length ≤ u14 ∧ u14 ≤ 9223372036854775807) → Elems (Rp.int .u8) I4 w' A14 x14 → RepL rp_T_api_Pair I4 w' cl8 x16 → RepL (Rp.slice (Rp.int .u8)) I4 w' cl9 x17 → RepL (Rp.int .i64) I4 w' cl10 x18 → X [(D4.getD 0 undef), .slice A1 p1.length u1, (D4.getD 2 undef), (D4.getD 3 undef), .pointer (some ⟨b1, 0, none⟩), .int .i64 0, .pointer (some ⟨b2, 0, none⟩), .pointer (some ⟨b3, 0, none⟩), .int .i64 x1.1, .int .i64 x5, .slice A12 x11.length u12, (D4.getD 11 undef), undef, undef, (D4.getD 14 undef), (D4.getD 15 undef), (D4.getD 16 undef), (D4.getD 17 undef), (D4.getD 18 undef), (D4.getD 19 undef), (D4.getD 20 undef), (D4.getD 21 undef), (D4.getD 22 undef), (D4.getD 23 undef), (D4.getD 24 undef), (D4.getD 25 undef), (D4.getD 26 undef), (D4.getD 27 undef), (D4.getD 28 undef), (D4.getD 29 undef), (D4.getD 30 undef), (D4.getD 31 undef), (D4.getD 32 undef), (D4.getD 33 undef), (D4.getD 34 undef), (D4.getD 35 undef), (D4.getD 36 undef), (D4.getD 37 undef), (D4.getD 38 undef), (D4.getD 39 undef), (D4.getD 40 undef), (D4.getD 41 undef), (D4.getD 42 undef), .int .i64 x5, .int .i64 x1.1, .bool (decide (x5 < x1.1)), (D3.getD 46 undef), (D3.getD 47 undef), .pointer (some ⟨b2, 0, none⟩), .pointer (some ⟨b2, 0, none⟩), .int .i64 x12, .slice A13 x13.length u13, .pointer (some ⟨b3, 0, none⟩), .bool (decide (p0 = 3)), (D4.getD 54 undef), (D4.getD 55 undef), (D4.getD 56 undef), (D4.getD 57 undef), (D4.getD 58 undef), (D4.getD 59 undef), (D4.getD 60 undef), (D4.getD 61 undef), (D4.getD 62 undef), (D4.getD 63 undef), (D4.getD 64 undef), (D4.getD 65 undef), (D4.getD 66 undef), (D4.getD 67 undef), (D4.getD 68 undef), (D4.getD 69 undef), (D4.getD 70 undef), (D4.getD 71 undef), (D4.getD 72 undef), (D4.getD 73 undef), (D4.getD 74 undef), (D4.getD 75 undef), (D4.getD 76 undef), (D4.getD 77 undef), (D4.getD 78 undef), (D4.getD 79 undef), (D4.getD 80 undef), (D4.getD 81 undef), undef, undef, undef, undef, undef, undef, undef, undef, undef, undef, undef, undef, undef, undef, undef, undef, undef] [] w') → X D4 ds wz) ?_ ?_
  intro X5 hX5
  refine fun D4 _ _ hJ => hJ X5 ?_
  clear s
  intro I4 x11 x12 x13 x14 x15 x16 x17 x18 A12 u12 A13 u13 A14 u14 A15 u15 cl8 A16 u16 cl9 A17 u17 cl10 w9 hf s kk e1 hc5 e5 hc6 e6 hc7 e7 rp5 rp6 rp7
  refine hX5 _ _ _ ?_
  unfold g33_j4 at hf
  refine WPK.region ?_
  refine RW.seg hT 3 [] [] [.int .i64 x5, .int .i64 (IntKind.i64.wrap (x5 + 1)), .int .i64 (IntKind.i64.wrap (x5 + 1))] [] (by kernel_rfl) (trivial) ?_
  refine RW.nil ?_
  subst hrec1
  replace s := s.pick [1, 0, 2, 3, 4, 5] 6 rfl
  exact ⟨n4, Nat.le_refl _, fun X h => kc (by kernel_rfl) rfl (h I4 (IntKind.i64.wrap (x5 + 1)) x14 x15 x16 x17 x18 A14 u14 A15 u15 cl8 A16 u16 cl9 A17 u17 cl10 _ hf s kk e1 hc7 e7 rp5 rp6 rp7)⟩
  refine WPK.block ?_
  refine WPK.seq ?_
  refine WPK.region ?_
  refine RW.seg hT 2 [] [] [.pointer (some ⟨b2, 0, none⟩), .pointer (some ⟨b2, 0, none⟩)] [] (by kernel_rfl) (trivial) ?_
  replace s := s.pick [1, 0, 2, 3, 4, 5] 6 rfl
  obtain ⟨x19, hx2, hf⟩ := bindS hf
  refine RW.op (by kernel_rfl) (OK.call' en73 (by kernel_rfl) (c73 (F := (.sl (.slice A11 x10.length u11) 3 1 x10.length cl7) :: (.blk b3 (.cells #[.bool (decide (p0 = 3)), .slice A9 x8.length u9, .slice A10 x9.length u10, .slice A11 x10.length u11] 26 (0, 0))) :: (.blk b1 (.cells #[.bool false, .slice none 0 0, .slice none 0 0, .slice none 0 0] 26 (0, 0))) :: (.sl (.slice A9 x8.length u9) 48 2 x8.length cl5) :: (.sl (.slice A10 x9.length u10) 27 1 x9.length cl6) :: F) (T_incipitref10_taker.mk x6 x7) b2 A8 u8 hc4 e4 s hx2) ?_)
  intro X6 hX6
  refine fun _ _ hJ => hJ X6 ?_
  clear s
  intro I5 A18 u18 w10 s k6 hc8 e8
  refine hX6 _ _ ?_
  replace e1 := e1.st k6
  replace e4 := e4.st k6
  replace rp4 := rp4.st k6
  replace rp2 := rp2.st k6
  replace rp3 := rp3.st k6
  replace kk := kk.trans k6
  obtain ⟨x20, hx3, hf⟩ := bindS hf
  refine RW.op (by kernel_rfl) (OK.call' en74 (by kernel_rfl) (c74 (F := (.sl (.slice A11 x10.length u11) 3 1 x10.length cl7) :: (.blk b3 (.cells #[.bool (decide (p0 = 3)), .slice A9 x8.length u9, .slice A10 x9.length u10, .slice A11 x10.length u11] 26 (0, 0))) :: (.blk b1 (.cells #[.bool false, .slice none 0 0, .slice none 0 0, .slice none 0 0] 26 (0, 0))) :: (.sl (.slice A9 x8.length u9) 48 2 x8.length cl5) :: (.sl (.slice A10 x9.length u10) 27 1 x9.length cl6) :: F) x19.2 x19.1 b2 A18 u18 hc8 e8 s hx3) ?_)
  intro X7 hX7
  refine fun _ _ hJ => hJ X7 ?_
  clear s
  intro I6 A19 n5 u19 cl11 A20 u20 w11 s k7 hn1 rp8 hc9 e9
  refine hX7 _ _ ?_
  replace e1 := e1.st k7
  replace e8 := e8.st k7
  replace rp4 := rp4.st k7
  replace rp2 := rp2.st k7
  replace rp3 := rp3.st k7
  replace kk := kk.trans k7
  refine RW.seg hT 1 [] [] [.slice A19 n5 u19] [] (by kernel_rfl) (trivial) ?_
  refine RW.nil ?_
  refine WPK.seq ?_
  refine WPK.seq ?_
  refine WPK.region ?_
  refine RW.seg hT 2 [.bool (decide (p0 = 3))] [] [.pointer (some ⟨b3, 0, none⟩), .bool (decide (p0 = 3))] [.cell ⟨b3, 0, none⟩ (.bool (decide (p0 = 3)))] (by kernel_rfl) (s.cell (i := 3) (off := 0) rfl rfl) ?_
  refine RW.nil ?_
  by_cases h2 : p0 = 3
  have hf := iteT h2 hf
  refine WPK.condT (Eq.trans (b := .bool (decide (p0 = 3))) (by kernel_rfl) (bo_t h2)) ?_
  refine WPK.seq ?_
  refine WPK.cut' (Kn fun D5 ds wz => ∀ X : Kont, (∀ (I7 : Nat → Prop) (x21 : (List Int)) (x22 : (List Int)) (x23 : (List Int)) (x24 : Int) (x25 : (List Int)) (x26 : (List Int)) (x27 : (List Int)) (x28 : (List T_api_Pair)) (x29 : (List T_api_Pair)) (x30 : (List Int)) (x31 : Int) (A21 : Option Addr) (u21 : Nat) (A22 : Option Addr) (u22 : Nat) (A23 : Option Addr) (u23 : Nat) (A24 : Option Addr) (u24 : Nat) (A25 : Option Addr) (u25 : Nat) (A26 : Option Addr) (u26 : Nat) (A27 : Option Addr) (u27 : Nat) (cl12 : List Value) (A28 : Option Addr) (u28 : Nat) (cl13 : List Value) (A29 : Option Addr) (u29 : Nat) (w' : World), g33_j5 x5 x9 x10 rec1 x19 x21 x22 x23 x24 x25 x26 x27 x28 x29 x30 x31 = some r → St w1 M I7 ((.sl (.slice A27 x28.length u27) 48 2 x28.length cl12) :: (.blk b2 (.cells #[.slice A29 x30.length u29, .int .i64 x31] 89 (0, 0))) :: (.sl (.slice A11 x10.length u11) 3 1 x10.length cl7) :: (.blk b3 (.cells #[.bool (decide (p0 = 3)), .slice A28 x29.length u28, .slice A10 x9.length u10, .slice A11 x10.length u11] 26 (0, 0))) :: (.blk b1 (.cells #[.bool false, .slice none 0 0, .slice none 0 0, .slice none 0 0] 26 (0, 0))) :: (.sl (.slice A28 x29.length u28) 48 2 x29.length cl13) :: (.sl (.slice A10 x9.length u10) 27 1 x9.length cl6) :: F) w' → Kp I w I7 w' → Elems (Rp.int .u8) I7 w' A1 p1 → (x21.length ≤ u21 ∧ u21 ≤ 9223372036854775807) → Elems (Rp.int .u8) I7 w' A21 x21 → (x22.length ≤ u22 ∧ u22 ≤ 9223372036854775807) → Elems (Rp.int .u8) I7 w' A22 x22 → (x23.length ≤ u23 ∧ u23 ≤ 9223372036854775807) → Elems (Rp.int .u8) I7 w' A23 x23 → (x25.length ≤ u24 ∧ u24 ≤ 9223372036854775807) → Elems (Rp.int .u8) I7 w' A24 x25 → (x26.length ≤ u25 ∧ u25 ≤ 9223372036854775807) → Elems (Rp.int .u8) I7 w' A25 x26 → (x27.length ≤ u26 ∧ u26 ≤ 9223372036854775807) → Elems (Rp.int .u8) I7 w' A26 x27 → RepL rp_T_api_Pair I7 w' cl12 x28 → RepL rp_T_api_Pair I7 w' cl13 x29 → (x30.length ≤ u29 ∧ u29 ≤ 9223372036854775807) → Elems (Rp.int .u8) I7 w' A29 x30 → RepL (Rp.int .i64) I7 w' cl7 x10 → RepL (Rp.slice (Rp.int .u8)) I7 w' cl6 x9 → X [(D5.getD 0 undef), .slice A1 p1.length u1, (D5.getD 2 undef), (D5.getD 3 undef), .pointer (some ⟨b1, 0, none⟩), .int .i64 0, .pointer (some ⟨b2, 0, none⟩), .pointer (some ⟨b3, 0, none⟩), .int .i64 x1.1, .int .i64 x5, .slice A21 x21.length u21, (D5.getD 11 undef), undef, undef, (D5.getD 14 undef), (D5.getD 15 undef), (D5.getD 16 undef), (D5.getD 17 undef), (D5.getD 18 undef), (D5.getD 19 undef), (D5.getD 20 undef), (D5.getD 21 undef), (D5.getD 22 undef), (D5.getD 23 undef), (D5.getD 24 undef), (D5.getD 25 undef), (D5.getD 26 undef), (D5.getD 27 undef), (D5.getD 28 undef), (D5.getD 29 undef), (D5.getD 30 undef), (D5.getD 31 undef), (D5.getD 32 undef), (D5.getD 33 undef), (D5.getD 34 undef), (D5.getD 35 undef), (D5.getD 36 undef), (D5.getD 37 undef), (D5.getD 38 undef), (D5.getD 39 undef), (D5.getD 40 undef), (D5.getD 41 undef), (D5.getD 42 undef), .int .i64 x5, .int .i64 x1.1, .bool (decide (x5 < x1.1)), (D3.getD 46 undef), (D3.getD 47 undef), .pointer (some ⟨b2, 0, none⟩), .pointer (some ⟨b2, 0, none⟩), .int .i64 x19.1, .slice A22 x22.length u22, .pointer (some ⟨b3, 0, none⟩), .bool (decide (p0 = 3)), .pointer (some ⟨b3, 1, none⟩), (.slice A9 x8.length u9), .slice A23 x23.length u23, .pointer (some ⟨b2, 0, none⟩), .pointer (some ⟨b2, 0, none⟩), .int .i64 x24, .slice A24 x25.length u24, .agg #[.slice A25 x26.length u25, .slice A26 x27.length u26], .slice A27 x28.length u27, .slice A28 x29.length u28, .pointer (some ⟨b3, 1, none⟩), (D3.getD 65 undef), (D3.getD 66 undef), (D3.getD 67 undef), (D3.getD 68 undef), (D3.getD 69 undef), (D3.getD 70 undef), (D3.getD 71 undef), (D3.getD 72 undef), (D3.getD 73 undef), (D3.getD 74 undef), (D3.getD 75 undef), (D3.getD 76 undef), (D3.getD 77 undef), (D3.getD 78 undef), (D3.getD 79 undef), (D3.getD 80 undef), (D3.getD 81 undef), undef, undef, undef, undef, undef, undef, undef, undef, undef, undef, undef, undef, undef, undef, undef, undef, undef] [] w') → X D5 ds wz) ?_ ?_
  intro X8 hX8
  refine fun D5 _ _ hJ => hJ X8 ?_
  clear s
  intro I7 x21 x22 x23 x24 x25 x26 x27 x28 x29 x30 x31 A21 u21 A22 u22 A23 u23 A24 u24 A25 u25 A26 u26 A27 u27 cl12 A28 u28 cl13 A29 u29 w12 hf s kk e1 hc10 e10 hc11 e11 hc12 e12 hc13 e13 hc14 e14 hc15 e15 rp9 rp10 hc16 e16 rp4 rp3
  refine hX8 _ _ _ ?_
  unfold g33_j5 at hf
  refine WPK.exit (blockQ.same ?_)
  replace s := s.pick [1, 2, 3, 4, 5, 6] 7 rfl
  exact fun X h => kc (by kernel_rfl) rfl (h I7 x21 x19.1 x22 x30 x31 x29 x9 x10 A21 u21 A22 u22 A29 u29 A28 u28 cl13 A10 u10 cl6 A11 u11 cl7 _ hf s kk e1 hc10 e10 hc11 e11 hc16 e16 rp10 rp3 rp4)
  have e1S1 := e1
  have e9S1 := e9
  have rp8S1 := rp8
  have rp4S1 := rp4
  have rp2S1 := rp2
  have rp3S1 := rp3
  have kS1 : Kp I6 w11 I6 w11 := Kp.refl
  refine WPK.drawM (fun w' => ∃ I' : Nat → Prop, St w1 M I' ((.sl (.slice A11 x10.length u11) 3 1 x10.length cl7) :: (.blk b1 (.cells #[.bool false, .slice none 0 0, .slice none 0 0, .slice none 0 0] 26 (0, 0))) :: (.sl (.slice A10 x9.length u10) 27 1 x9.length cl6) :: F) w' ∧ Kp I6 w11 I' w') 12 [0, 1, 0, 0, 0, 16, 56, 124, 252, 511, 1023, 2047] (by kernel_rfl) (by kernel_rfl) ?_
  intro ht1 w13 hd1
  have k8 := Kp.dr s hd1
  replace s := s.dr hd1
  replace e1 := e1.st k8
  replace e9 := e9.st k8
  replace rp8 := rp8.st k8
  replace rp4 := rp4.st k8
  replace rp2 := rp2.st k8
  replace rp3 := rp3.st k8
  replace kk := kk.trans k8
  replace kS1 := kS1.trans k8
  refine RD.segM hT ht1 (by kernel_rfl) [0, 2, 3, 4] [] [] [.pointer (some ⟨b3, 1, none⟩), .slice A19 n5 u19, .pointer (some ⟨b2, 0, none⟩), .pointer (some ⟨b2, 0, none⟩)] [] (by kernel_rfl) (fun _ _ => trivial) ⟨_, s.pick [2, 4, 6] 7 rfl, kS1⟩ ?_
  obtain ⟨x32, hx4, hf⟩ := bindS hf
  refine RD.ways [1, 5] (by kernel_rfl) (List.forall_mem_cons.2 ⟨?_, List.forall_mem_cons.2 ⟨?_, fun _ h => nomatch h⟩⟩)
  refine RWay.op rfl (by kernel_rfl) (OK.pure hT (ld := (.slice A9 x8.length u9)) (v := .slice A9 x8.length u9) (c := .cell ⟨b3, 1, none⟩ (.slice A9 x8.length u9)) (by kernel_rfl) (s.cell (i := 3) (off := 1) rfl rfl) ?_)
  refine ⟨fun _ => ⟨_, s.pick [2, 4, 6] 7 rfl, kS1⟩, RD.fold ?_⟩
  replace s := s.pick [1, 0, 2, 3, 4, 5, 6] 7 rfl
  refine RD.op (i := 5) rfl (by kernel_rfl) (by kernel_rfl) (OK.call' en73 (by kernel_rfl) (c73 (F := (.sl (.slice A19 n5 u19) 5 1 n5 cl11) :: (.sl (.slice A11 x10.length u11) 3 1 x10.length cl7) :: (.blk b3 (.cells #[.bool (decide (p0 = 3)), .slice A9 x8.length u9, .slice A10 x9.length u10, .slice A11 x10.length u11] 26 (0, 0))) :: (.blk b1 (.cells #[.bool false, .slice none 0 0, .slice none 0 0, .slice none 0 0] 26 (0, 0))) :: (.sl (.slice A9 x8.length u9) 48 2 x8.length cl5) :: (.sl (.slice A10 x9.length u10) 27 1 x9.length cl6) :: F) x20.2 b2 A20 u20 hc9 e9 s hx4) ?_)
  intro X9 hX9
  refine fun _ _ hJ => hJ X9 ?_
  clear s
  intro I8 A30 u30 w14 s k9 hc17 e17
  refine hX9 _ _ ?_
  replace e1 := e1.st k9
  replace e9 := e9.st k9
  replace rp8 := rp8.st k9
  replace rp4 := rp4.st k9
  replace rp2 := rp2.st k9
  replace rp3 := rp3.st k9
  replace kk := kk.trans k9
  replace kS1 := kS1.trans k9
  refine ⟨fun _ => ⟨_, s.pick [2, 4, 6] 7 rfl, kS1⟩, RD.fold ?_⟩
  obtain ⟨x33, hx5, hf⟩ := bindS hf
  refine RD.op (i := 6) rfl (by kernel_rfl) (by kernel_rfl) (OK.call' en74 (by kernel_rfl) (c74 (F := (.sl (.slice A19 n5 u19) 5 1 n5 cl11) :: (.sl (.slice A11 x10.length u11) 3 1 x10.length cl7) :: (.blk b3 (.cells #[.bool (decide (p0 = 3)), .slice A9 x8.length u9, .slice A10 x9.length u10, .slice A11 x10.length u11] 26 (0, 0))) :: (.blk b1 (.cells #[.bool false, .slice none 0 0, .slice none 0 0, .slice none 0 0] 26 (0, 0))) :: (.sl (.slice A9 x8.length u9) 48 2 x8.length cl5) :: (.sl (.slice A10 x9.length u10) 27 1 x9.length cl6) :: F) x32.2 x32.1 b2 A30 u30 hc17 e17 s hx5) ?_)
  intro X10 hX10
  refine fun _ _ hJ => hJ X10 ?_
  clear s
  intro I9 A31 n6 u31 cl14 A32 u32 w15 s k10 hn2 rp11 hc18 e18
  refine hX10 _ _ ?_
  replace e1 := e1.st k10
  replace e17 := e17.st k10
  replace rp8 := rp8.st k10
  replace rp4 := rp4.st k10
  replace rp2 := rp2.st k10
  replace rp3 := rp3.st k10
  replace kk := kk.trans k10
  replace kS1 := kS1.trans k10
  refine ⟨fun _ => ⟨_, s.pick [3, 5, 7] 8 rfl, kS1⟩, RD.fold ?_⟩
  refine RD.segM hT ht1 (by kernel_rfl) [7] [] [] [.agg #[.slice A19 n5 u19, .slice A31 n6 u31]] [] (by kernel_rfl) (fun _ _ => trivial) ⟨_, s.pick [3, 5, 7] 8 rfl, kS1⟩ ?_
  rw [hn1] at s
  try rw [hn1]
  obtain ⟨I10, s', k11, hc19, e19⟩ := St.give s (i := 2) rfl rfl rp8
  replace s := s'; clear s'
  replace e1 := e1.st k11
  replace e18 := e18.st k11
  replace rp11 := rp11.st k11
  replace rp4 := rp4.st k11
  replace rp2 := rp2.st k11
  replace rp3 := rp3.st k11
  replace kk := kk.trans k11
  replace kS1 := kS1.trans k11
  rw [hn2] at s
  try rw [hn2]
  obtain ⟨I11, s', k12, hc20, e20⟩ := St.give s (i := 0) rfl rfl rp11
  replace s := s'; clear s'
  replace e1 := e1.st k12
  replace e19 := e19.st k12
  replace e18 := e18.st k12
  replace rp4 := rp4.st k12
  replace rp2 := rp2.st k12
  replace rp3 := rp3.st k12
  replace kk := kk.trans k12
  replace kS1 := kS1.trans k12
  refine RD.op (i := 8) rfl (by kernel_rfl) (by kernel_rfl) (OK.new hT (f := fun b => .slice (some ⟨b, 0, none⟩) 1 1) (cs := [.slice A19 x20.1.length u19, .slice A31 x33.1.length u31]) (e := 48) (c := .tt) s (by kernel_rfl) trivial ?_)
  clear s
  rintro w16 b4 s k13 -
  replace e1 := e1.st k13
  replace e19 := e19.st k13
  replace e20 := e20.st k13
  replace e18 := e18.st k13
  replace rp4 := rp4.st k13
  replace rp2 := rp2.st k13
  replace rp3 := rp3.st k13
  replace kk := kk.trans k13
  replace kS1 := kS1.trans k13
  have rp12 : RepL rp_T_api_Pair I11 w16 [.slice A19 x20.1.length u19, .slice A31 x33.1.length u31] ([(T_api_Pair.mk x20.1 x33.1)] : List T_api_Pair) := RepL.cons (c := [.slice A19 x20.1.length u19, .slice A31 x33.1.length u31]) (d := []) (⟨[.slice A19 x20.1.length u19], [.slice A31 x33.1.length u31], rfl, ⟨_, _, rfl, hc19.1, hc19.2, e19⟩, ⟨_, _, rfl, hc20.1, hc20.2, e20⟩⟩) (RepL.nil)
  replace s : St w1 M I11 ((.sl (.slice (some ⟨b4, 0, none⟩) 1 1) 48 2 1 [.slice A19 x20.1.length u19, .slice A31 x33.1.length u31]) :: (.blk b2 (.cells #[.slice A32 x33.2.b.length u32, .int .i64 x33.2.at_] 89 (0, 0))) :: (.sl (.slice A11 x10.length u11) 3 1 x10.length cl7) :: (.blk b3 (.cells #[.bool (decide (p0 = 3)), .slice A9 x8.length u9, .slice A10 x9.length u10, .slice A11 x10.length u11] 26 (0, 0))) :: (.blk b1 (.cells #[.bool false, .slice none 0 0, .slice none 0 0, .slice none 0 0] 26 (0, 0))) :: (.sl (.slice A9 x8.length u9) 48 2 x8.length cl5) :: (.sl (.slice A10 x9.length u10) 27 1 x9.length cl6) :: F) w16 := s.blkSl (i := 0) (n := 1) (c := 1) (size := 2) rfl rfl (Nat.le_refl _) (by decide)
  refine ⟨fun _ => ⟨_, s.pick [2, 4, 6] 7 rfl, kS1⟩, RD.fold ?_⟩
  have hs1 := St.src s (i := 0) rfl rfl rp12
  have rq1 := rp12
  obtain ⟨x34, hx6, hf⟩ := bindS hf
  refine RD.op (i := 9) rfl (by kernel_rfl) (by kernel_rfl) (OK.app hT (r := rp_T_api_Pair) (i := 5) (t := 22) (e := 48) (size := 2) (bytes := 48) (c := u9) (n := x8.length) (m := 1) s (by kernel_rfl) rfl rfl rfl rfl rfl (by decide) rfl rfl rfl rfl rp2 hs1 rq1 (flat_iso (flat_pair flat_slice flat_slice)) rfl hx6 ?_)
  clear s
  rintro A33 u33 cl15 w17 s k14 rp13
  replace e1 := e1.st k14
  replace e19 := e19.st k14
  replace e20 := e20.st k14
  replace e18 := e18.st k14
  replace rp12 := rp12.st k14
  replace rp4 := rp4.st k14
  replace rp2 := rp2.st k14
  replace rp3 := rp3.st k14
  replace kk := kk.trans k14
  replace kS1 := kS1.trans k14
  refine ⟨fun _ => ⟨_, s.pick [2, 4, 6] 7 rfl, kS1⟩, RD.fold ?_⟩
  refine RD.segM hT ht1 (by kernel_rfl) [10] [] [] [.pointer (some ⟨b3, 1, none⟩)] [] (by kernel_rfl) (fun _ _ => trivial) ⟨_, s.pick [2, 4, 6] 7 rfl, kS1⟩ ?_
  refine RD.op (i := 11) rfl (by kernel_rfl) (by kernel_rfl) (OK.store hT (i := 3) (b := b3) (off := 1) (n := 1) (vs := [.slice A33 x34.length u33]) (cs := [.bool (decide (p0 = 3)), (.slice A9 x8.length u9), .slice A10 x9.length u10, .slice A11 x10.length u11]) (e := 26) s (by kernel_rfl) rfl rfl (flat_ok rfl) (Nat.le_of_ble_eq_true rfl) ?_)
  clear s
  rintro w18 s k15 -
  replace e1 := e1.st k15
  replace e19 := e19.st k15
  replace e20 := e20.st k15
  replace e18 := e18.st k15
  replace rp12 := rp12.st k15
  replace rp4 := rp4.st k15
  replace rp13 := rp13.st k15
  replace rp3 := rp3.st k15
  replace kk := kk.trans k15
  replace kS1 := kS1.trans k15
  refine ⟨fun _ => ⟨_, s.pick [2, 4, 6] 7 rfl, kS1⟩, RD.fold ?_⟩
  refine RD.done (by kernel_rfl) ?_
  exact fun X h => kc (by kernel_rfl) rfl (h I11 x20.1 x20.1 x20.1 x32.1 x33.1 x20.1 x33.1 ([(T_api_Pair.mk x20.1 x33.1)] : List T_api_Pair) x34 x33.2.b x33.2.at_ A19 u19 A19 u19 A19 u19 A31 u31 A19 u19 A31 u31 (some ⟨b4, 0, none⟩) 1 [.slice A19 x20.1.length u19, .slice A31 x33.1.length u31] A33 u33 cl15 A32 u32 _ hf s kk e1 hc19 e19 hc19 e19 hc19 e19 hc20 e20 hc19 e19 hc20 e20 rp12 rp13 hc18 e18 rp4 rp3)
  replace s := s.pick [1, 0, 2, 3, 4, 5, 6] 7 rfl
  refine RWay.op rfl (by kernel_rfl) (OK.call' en73 (by kernel_rfl) (c73 (F := (.sl (.slice A19 n5 u19) 5 1 n5 cl11) :: (.sl (.slice A11 x10.length u11) 3 1 x10.length cl7) :: (.blk b3 (.cells #[.bool (decide (p0 = 3)), .slice A9 x8.length u9, .slice A10 x9.length u10, .slice A11 x10.length u11] 26 (0, 0))) :: (.blk b1 (.cells #[.bool false, .slice none 0 0, .slice none 0 0, .slice none 0 0] 26 (0, 0))) :: (.sl (.slice A9 x8.length u9) 48 2 x8.length cl5) :: (.sl (.slice A10 x9.length u10) 27 1 x9.length cl6) :: F) x20.2 b2 A20 u20 hc9 e9 s hx4) ?_)
  intro X11 hX11
  refine fun _ _ hJ => hJ X11 ?_
  clear s
  intro I12 A34 u34 w19 s k16 hc21 e21
  refine hX11 _ _ ?_
  replace e1 := e1.st k16
  replace e9 := e9.st k16
  replace rp8 := rp8.st k16
  replace rp4 := rp4.st k16
  replace rp2 := rp2.st k16
  replace rp3 := rp3.st k16
  replace kk := kk.trans k16
  replace kS1 := kS1.trans k16
  refine ⟨fun _ => ⟨_, s.pick [2, 4, 6] 7 rfl, kS1⟩, RD.fold ?_⟩
  obtain ⟨x35, hx7, hf⟩ := bindS hf
  refine RD.ways [1, 6] (by kernel_rfl) (List.forall_mem_cons.2 ⟨?_, List.forall_mem_cons.2 ⟨?_, fun _ h => nomatch h⟩⟩)
  refine RWay.op rfl (by kernel_rfl) (OK.pure hT (ld := (.slice A9 x8.length u9)) (v := .slice A9 x8.length u9) (c := .cell ⟨b3, 1, none⟩ (.slice A9 x8.length u9)) (by kernel_rfl) (s.cell (i := 3) (off := 1) rfl rfl) ?_)
  refine ⟨fun _ => ⟨_, s.pick [2, 4, 6] 7 rfl, kS1⟩, RD.fold ?_⟩
  refine RD.op (i := 6) rfl (by kernel_rfl) (by kernel_rfl) (OK.call' en74 (by kernel_rfl) (c74 (F := (.sl (.slice A19 n5 u19) 5 1 n5 cl11) :: (.sl (.slice A11 x10.length u11) 3 1 x10.length cl7) :: (.blk b3 (.cells #[.bool (decide (p0 = 3)), .slice A9 x8.length u9, .slice A10 x9.length u10, .slice A11 x10.length u11] 26 (0, 0))) :: (.blk b1 (.cells #[.bool false, .slice none 0 0, .slice none 0 0, .slice none 0 0] 26 (0, 0))) :: (.sl (.slice A9 x8.length u9) 48 2 x8.length cl5) :: (.sl (.slice A10 x9.length u10) 27 1 x9.length cl6) :: F) x32.2 x32.1 b2 A34 u34 hc21 e21 s hx7) ?_)
  intro X12 hX12
  refine fun _ _ hJ => hJ X12 ?_
  clear s
  intro I13 A35 n7 u35 cl16 A36 u36 w20 s k17 hn3 rp14 hc22 e22
  refine hX12 _ _ ?_
  replace e1 := e1.st k17
  replace e21 := e21.st k17
  replace rp8 := rp8.st k17
  replace rp4 := rp4.st k17
  replace rp2 := rp2.st k17
  replace rp3 := rp3.st k17
  replace kk := kk.trans k17
  replace kS1 := kS1.trans k17
  refine ⟨fun _ => ⟨_, s.pick [3, 5, 7] 8 rfl, kS1⟩, RD.fold ?_⟩
  refine RD.segM hT ht1 (by kernel_rfl) [7] [] [] [.agg #[.slice A19 n5 u19, .slice A35 n7 u35]] [] (by kernel_rfl) (fun _ _ => trivial) ⟨_, s.pick [3, 5, 7] 8 rfl, kS1⟩ ?_
  rw [hn1] at s
  try rw [hn1]
  obtain ⟨I14, s', k18, hc23, e23⟩ := St.give s (i := 2) rfl rfl rp8
  replace s := s'; clear s'
  replace e1 := e1.st k18
  replace e22 := e22.st k18
  replace rp14 := rp14.st k18
  replace rp4 := rp4.st k18
  replace rp2 := rp2.st k18
  replace rp3 := rp3.st k18
  replace kk := kk.trans k18
  replace kS1 := kS1.trans k18
  rw [hn3] at s
  try rw [hn3]
  obtain ⟨I15, s', k19, hc24, e24⟩ := St.give s (i := 0) rfl rfl rp14
  replace s := s'; clear s'
  replace e1 := e1.st k19
  replace e23 := e23.st k19
  replace e22 := e22.st k19
  replace rp4 := rp4.st k19
  replace rp2 := rp2.st k19
  replace rp3 := rp3.st k19
  replace kk := kk.trans k19
  replace kS1 := kS1.trans k19
  refine RD.op (i := 8) rfl (by kernel_rfl) (by kernel_rfl) (OK.new hT (f := fun b => .slice (some ⟨b, 0, none⟩) 1 1) (cs := [.slice A19 x20.1.length u19, .slice A35 x35.1.length u35]) (e := 48) (c := .tt) s (by kernel_rfl) trivial ?_)
  clear s
  rintro w21 b5 s k20 -
  replace e1 := e1.st k20
  replace e23 := e23.st k20
  replace e24 := e24.st k20
  replace e22 := e22.st k20
  replace rp4 := rp4.st k20
  replace rp2 := rp2.st k20
  replace rp3 := rp3.st k20
  replace kk := kk.trans k20
  replace kS1 := kS1.trans k20
  have rp15 : RepL rp_T_api_Pair I15 w21 [.slice A19 x20.1.length u19, .slice A35 x35.1.length u35] ([(T_api_Pair.mk x20.1 x35.1)] : List T_api_Pair) := RepL.cons (c := [.slice A19 x20.1.length u19, .slice A35 x35.1.length u35]) (d := []) (⟨[.slice A19 x20.1.length u19], [.slice A35 x35.1.length u35], rfl, ⟨_, _, rfl, hc23.1, hc23.2, e23⟩, ⟨_, _, rfl, hc24.1, hc24.2, e24⟩⟩) (RepL.nil)
  replace s : St w1 M I15 ((.sl (.slice (some ⟨b5, 0, none⟩) 1 1) 48 2 1 [.slice A19 x20.1.length u19, .slice A35 x35.1.length u35]) :: (.blk b2 (.cells #[.slice A36 x35.2.b.length u36, .int .i64 x35.2.at_] 89 (0, 0))) :: (.sl (.slice A11 x10.length u11) 3 1 x10.length cl7) :: (.blk b3 (.cells #[.bool (decide (p0 = 3)), .slice A9 x8.length u9, .slice A10 x9.length u10, .slice A11 x10.length u11] 26 (0, 0))) :: (.blk b1 (.cells #[.bool false, .slice none 0 0, .slice none 0 0, .slice none 0 0] 26 (0, 0))) :: (.sl (.slice A9 x8.length u9) 48 2 x8.length cl5) :: (.sl (.slice A10 x9.length u10) 27 1 x9.length cl6) :: F) w21 := s.blkSl (i := 0) (n := 1) (c := 1) (size := 2) rfl rfl (Nat.le_refl _) (by decide)
  refine ⟨fun _ => ⟨_, s.pick [2, 4, 6] 7 rfl, kS1⟩, RD.fold ?_⟩
  have hs2 := St.src s (i := 0) rfl rfl rp15
  have rq2 := rp15
  obtain ⟨x36, hx8, hf⟩ := bindS hf
  refine RD.op (i := 9) rfl (by kernel_rfl) (by kernel_rfl) (OK.app hT (r := rp_T_api_Pair) (i := 5) (t := 22) (e := 48) (size := 2) (bytes := 48) (c := u9) (n := x8.length) (m := 1) s (by kernel_rfl) rfl rfl rfl rfl rfl (by decide) rfl rfl rfl rfl rp2 hs2 rq2 (flat_iso (flat_pair flat_slice flat_slice)) rfl hx8 ?_)
  clear s
  rintro A37 u37 cl17 w22 s k21 rp16
  replace e1 := e1.st k21
  replace e23 := e23.st k21
  replace e24 := e24.st k21
  replace e22 := e22.st k21
  replace rp15 := rp15.st k21
  replace rp4 := rp4.st k21
  replace rp2 := rp2.st k21
  replace rp3 := rp3.st k21
  replace kk := kk.trans k21
  replace kS1 := kS1.trans k21
  refine ⟨fun _ => ⟨_, s.pick [2, 4, 6] 7 rfl, kS1⟩, RD.fold ?_⟩
  refine RD.segM hT ht1 (by kernel_rfl) [10] [] [] [.pointer (some ⟨b3, 1, none⟩)] [] (by kernel_rfl) (fun _ _ => trivial) ⟨_, s.pick [2, 4, 6] 7 rfl, kS1⟩ ?_
  refine RD.op (i := 11) rfl (by kernel_rfl) (by kernel_rfl) (OK.store hT (i := 3) (b := b3) (off := 1) (n := 1) (vs := [.slice A37 x36.length u37]) (cs := [.bool (decide (p0 = 3)), (.slice A9 x8.length u9), .slice A10 x9.length u10, .slice A11 x10.length u11]) (e := 26) s (by kernel_rfl) rfl rfl (flat_ok rfl) (Nat.le_of_ble_eq_true rfl) ?_)
  clear s
  rintro w23 s k22 -
  replace e1 := e1.st k22
  replace e23 := e23.st k22
  replace e24 := e24.st k22
  replace e22 := e22.st k22
  replace rp15 := rp15.st k22
  replace rp4 := rp4.st k22
  replace rp16 := rp16.st k22
  replace rp3 := rp3.st k22
  replace kk := kk.trans k22
  replace kS1 := kS1.trans k22
  refine ⟨fun _ => ⟨_, s.pick [2, 4, 6] 7 rfl, kS1⟩, RD.fold ?_⟩
  refine RD.done (by kernel_rfl) ?_
  exact fun X h => kc (by kernel_rfl) rfl (h I15 x20.1 x20.1 x20.1 x32.1 x35.1 x20.1 x35.1 ([(T_api_Pair.mk x20.1 x35.1)] : List T_api_Pair) x36 x35.2.b x35.2.at_ A19 u19 A19 u19 A19 u19 A35 u35 A19 u19 A35 u35 (some ⟨b5, 0, none⟩) 1 [.slice A19 x20.1.length u19, .slice A35 x35.1.length u35] A37 u37 cl17 A36 u36 _ hf s kk e1 hc23 e23 hc23 e23 hc23 e23 hc24 e24 hc23 e23 hc24 e24 rp15 rp16 hc22 e22 rp4 rp3)
  refine RWay.op rfl (by kernel_rfl) (OK.call' en74 (by kernel_rfl) (c74 (F := (.sl (.slice A19 n5 u19) 5 1 n5 cl11) :: (.sl (.slice A11 x10.length u11) 3 1 x10.length cl7) :: (.blk b3 (.cells #[.bool (decide (p0 = 3)), .slice A9 x8.length u9, .slice A10 x9.length u10, .slice A11 x10.length u11] 26 (0, 0))) :: (.blk b1 (.cells #[.bool false, .slice none 0 0, .slice none 0 0, .slice none 0 0] 26 (0, 0))) :: (.sl (.slice A9 x8.length u9) 48 2 x8.length cl5) :: (.sl (.slice A10 x9.length u10) 27 1 x9.length cl6) :: F) x32.2 x32.1 b2 A34 u34 hc21 e21 s hx7) ?_)
  intro X13 hX13
  refine fun _ _ hJ => hJ X13 ?_
  clear s
  intro I16 A38 n8 u38 cl18 A39 u39 w24 s k23 hn4 rp17 hc25 e25
  refine hX13 _ _ ?_
  replace e1 := e1.st k23
  replace e21 := e21.st k23
  replace rp8 := rp8.st k23
  replace rp4 := rp4.st k23
  replace rp2 := rp2.st k23
  replace rp3 := rp3.st k23
  replace kk := kk.trans k23
  replace kS1 := kS1.trans k23
  refine ⟨fun _ => ⟨_, s.pick [3, 5, 7] 8 rfl, kS1⟩, RD.fold ?_⟩
  refine RD.segM hT ht1 (by kernel_rfl) [7] [] [] [.agg #[.slice A19 n5 u19, .slice A38 n8 u38]] [] (by kernel_rfl) (fun _ _ => trivial) ⟨_, s.pick [3, 5, 7] 8 rfl, kS1⟩ ?_
  refine RD.ways [1, 8] (by kernel_rfl) (List.forall_mem_cons.2 ⟨?_, List.forall_mem_cons.2 ⟨?_, fun _ h => nomatch h⟩⟩)
  refine RWay.op rfl (by kernel_rfl) (OK.pure hT (ld := (.slice A9 x8.length u9)) (v := .slice A9 x8.length u9) (c := .cell ⟨b3, 1, none⟩ (.slice A9 x8.length u9)) (by kernel_rfl) (s.cell (i := 4) (off := 1) rfl rfl) ?_)
  refine ⟨fun _ => ⟨_, s.pick [3, 5, 7] 8 rfl, kS1⟩, RD.fold ?_⟩
  rw [hn1] at s
  try rw [hn1]
  obtain ⟨I17, s', k24, hc26, e26⟩ := St.give s (i := 2) rfl rfl rp8
  replace s := s'; clear s'
  replace e1 := e1.st k24
  replace e25 := e25.st k24
  replace rp17 := rp17.st k24
  replace rp4 := rp4.st k24
  replace rp2 := rp2.st k24
  replace rp3 := rp3.st k24
  replace kk := kk.trans k24
  replace kS1 := kS1.trans k24
  rw [hn4] at s
  try rw [hn4]
  obtain ⟨I18, s', k25, hc27, e27⟩ := St.give s (i := 0) rfl rfl rp17
  replace s := s'; clear s'
  replace e1 := e1.st k25
  replace e26 := e26.st k25
  replace e25 := e25.st k25
  replace rp4 := rp4.st k25
  replace rp2 := rp2.st k25
  replace rp3 := rp3.st k25
  replace kk := kk.trans k25
  replace kS1 := kS1.trans k25
  refine RD.op (i := 8) rfl (by kernel_rfl) (by kernel_rfl) (OK.new hT (f := fun b => .slice (some ⟨b, 0, none⟩) 1 1) (cs := [.slice A19 x20.1.length u19, .slice A38 x35.1.length u38]) (e := 48) (c := .tt) s (by kernel_rfl) trivial ?_)
  clear s
  rintro w25 b6 s k26 -
  replace e1 := e1.st k26
  replace e26 := e26.st k26
  replace e27 := e27.st k26
  replace e25 := e25.st k26
  replace rp4 := rp4.st k26
  replace rp2 := rp2.st k26
  replace rp3 := rp3.st k26
  replace kk := kk.trans k26
  replace kS1 := kS1.trans k26
  have rp18 : RepL rp_T_api_Pair I18 w25 [.slice A19 x20.1.length u19, .slice A38 x35.1.length u38] ([(T_api_Pair.mk x20.1 x35.1)] : List T_api_Pair) := RepL.cons (c := [.slice A19 x20.1.length u19, .slice A38 x35.1.length u38]) (d := []) (⟨[.slice A19 x20.1.length u19], [.slice A38 x35.1.length u38], rfl, ⟨_, _, rfl, hc26.1, hc26.2, e26⟩, ⟨_, _, rfl, hc27.1, hc27.2, e27⟩⟩) (RepL.nil)
  replace s : St w1 M I18 ((.sl (.slice (some ⟨b6, 0, none⟩) 1 1) 48 2 1 [.slice A19 x20.1.length u19, .slice A38 x35.1.length u38]) :: (.blk b2 (.cells #[.slice A39 x35.2.b.length u39, .int .i64 x35.2.at_] 89 (0, 0))) :: (.sl (.slice A11 x10.length u11) 3 1 x10.length cl7) :: (.blk b3 (.cells #[.bool (decide (p0 = 3)), .slice A9 x8.length u9, .slice A10 x9.length u10, .slice A11 x10.length u11] 26 (0, 0))) :: (.blk b1 (.cells #[.bool false, .slice none 0 0, .slice none 0 0, .slice none 0 0] 26 (0, 0))) :: (.sl (.slice A9 x8.length u9) 48 2 x8.length cl5) :: (.sl (.slice A10 x9.length u10) 27 1 x9.length cl6) :: F) w25 := s.blkSl (i := 0) (n := 1) (c := 1) (size := 2) rfl rfl (Nat.le_refl _) (by decide)
  refine ⟨fun _ => ⟨_, s.pick [2, 4, 6] 7 rfl, kS1⟩, RD.fold ?_⟩
  have hs3 := St.src s (i := 0) rfl rfl rp18
  have rq3 := rp18
  obtain ⟨x37, hx9, hf⟩ := bindS hf
  refine RD.op (i := 9) rfl (by kernel_rfl) (by kernel_rfl) (OK.app hT (r := rp_T_api_Pair) (i := 5) (t := 22) (e := 48) (size := 2) (bytes := 48) (c := u9) (n := x8.length) (m := 1) s (by kernel_rfl) rfl rfl rfl rfl rfl (by decide) rfl rfl rfl rfl rp2 hs3 rq3 (flat_iso (flat_pair flat_slice flat_slice)) rfl hx9 ?_)
  clear s
  rintro A40 u40 cl19 w26 s k27 rp19
  replace e1 := e1.st k27
  replace e26 := e26.st k27
  replace e27 := e27.st k27
  replace e25 := e25.st k27
  replace rp18 := rp18.st k27
  replace rp4 := rp4.st k27
  replace rp2 := rp2.st k27
  replace rp3 := rp3.st k27
  replace kk := kk.trans k27
  replace kS1 := kS1.trans k27
  refine ⟨fun _ => ⟨_, s.pick [2, 4, 6] 7 rfl, kS1⟩, RD.fold ?_⟩
  refine RD.segM hT ht1 (by kernel_rfl) [10] [] [] [.pointer (some ⟨b3, 1, none⟩)] [] (by kernel_rfl) (fun _ _ => trivial) ⟨_, s.pick [2, 4, 6] 7 rfl, kS1⟩ ?_
  refine RD.op (i := 11) rfl (by kernel_rfl) (by kernel_rfl) (OK.store hT (i := 3) (b := b3) (off := 1) (n := 1) (vs := [.slice A40 x37.length u40]) (cs := [.bool (decide (p0 = 3)), (.slice A9 x8.length u9), .slice A10 x9.length u10, .slice A11 x10.length u11]) (e := 26) s (by kernel_rfl) rfl rfl (flat_ok rfl) (Nat.le_of_ble_eq_true rfl) ?_)
  clear s
  rintro w27 s k28 -
  replace e1 := e1.st k28
  replace e26 := e26.st k28
  replace e27 := e27.st k28
  replace e25 := e25.st k28
  replace rp18 := rp18.st k28
  replace rp4 := rp4.st k28
  replace rp19 := rp19.st k28
  replace rp3 := rp3.st k28
  replace kk := kk.trans k28
  replace kS1 := kS1.trans k28
  refine ⟨fun _ => ⟨_, s.pick [2, 4, 6] 7 rfl, kS1⟩, RD.fold ?_⟩
  refine RD.done (by kernel_rfl) ?_
  exact fun X h => kc (by kernel_rfl) rfl (h I18 x20.1 x20.1 x20.1 x32.1 x35.1 x20.1 x35.1 ([(T_api_Pair.mk x20.1 x35.1)] : List T_api_Pair) x37 x35.2.b x35.2.at_ A19 u19 A19 u19 A19 u19 A38 u38 A19 u19 A38 u38 (some ⟨b6, 0, none⟩) 1 [.slice A19 x20.1.length u19, .slice A38 x35.1.length u38] A40 u40 cl19 A39 u39 _ hf s kk e1 hc26 e26 hc26 e26 hc26 e26 hc27 e27 hc26 e26 hc27 e27 rp18 rp19 hc25 e25 rp4 rp3)
  rw [hn1] at s
  try rw [hn1]
  obtain ⟨I17, s', k24, hc26, e26⟩ := St.give s (i := 2) rfl rfl rp8
  replace s := s'; clear s'
  replace e1 := e1.st k24
  replace e25 := e25.st k24
  replace rp17 := rp17.st k24
  replace rp4 := rp4.st k24
  replace rp2 := rp2.st k24
  replace rp3 := rp3.st k24
  replace kk := kk.trans k24
  replace kS1 := kS1.trans k24
  rw [hn4] at s
  try rw [hn4]
  obtain ⟨I18, s', k25, hc27, e27⟩ := St.give s (i := 0) rfl rfl rp17
  replace s := s'; clear s'
  replace e1 := e1.st k25
  replace e26 := e26.st k25
  replace e25 := e25.st k25
  replace rp4 := rp4.st k25
  replace rp2 := rp2.st k25
  replace rp3 := rp3.st k25
  replace kk := kk.trans k25
  replace kS1 := kS1.trans k25
  refine RWay.op rfl (by kernel_rfl) (OK.new hT (f := fun b => .slice (some ⟨b, 0, none⟩) 1 1) (cs := [.slice A19 x20.1.length u19, .slice A38 x35.1.length u38]) (e := 48) (c := .tt) s (by kernel_rfl) trivial ?_)
  clear s
  rintro w25 b6 s k26 -
  replace e1 := e1.st k26
  replace e26 := e26.st k26
  replace e27 := e27.st k26
  replace e25 := e25.st k26
  replace rp4 := rp4.st k26
  replace rp2 := rp2.st k26
  replace rp3 := rp3.st k26
  replace kk := kk.trans k26
  replace kS1 := kS1.trans k26
  have rp18 : RepL rp_T_api_Pair I18 w25 [.slice A19 x20.1.length u19, .slice A38 x35.1.length u38] ([(T_api_Pair.mk x20.1 x35.1)] : List T_api_Pair) := RepL.cons (c := [.slice A19 x20.1.length u19, .slice A38 x35.1.length u38]) (d := []) (⟨[.slice A19 x20.1.length u19], [.slice A38 x35.1.length u38], rfl, ⟨_, _, rfl, hc26.1, hc26.2, e26⟩, ⟨_, _, rfl, hc27.1, hc27.2, e27⟩⟩) (RepL.nil)
  replace s : St w1 M I18 ((.sl (.slice (some ⟨b6, 0, none⟩) 1 1) 48 2 1 [.slice A19 x20.1.length u19, .slice A38 x35.1.length u38]) :: (.blk b2 (.cells #[.slice A39 x35.2.b.length u39, .int .i64 x35.2.at_] 89 (0, 0))) :: (.sl (.slice A11 x10.length u11) 3 1 x10.length cl7) :: (.blk b3 (.cells #[.bool (decide (p0 = 3)), .slice A9 x8.length u9, .slice A10 x9.length u10, .slice A11 x10.length u11] 26 (0, 0))) :: (.blk b1 (.cells #[.bool false, .slice none 0 0, .slice none 0 0, .slice none 0 0] 26 (0, 0))) :: (.sl (.slice A9 x8.length u9) 48 2 x8.length cl5) :: (.sl (.slice A10 x9.length u10) 27 1 x9.length cl6) :: F) w25 := s.blkSl (i := 0) (n := 1) (c := 1) (size := 2) rfl rfl (Nat.le_refl _) (by decide)
  refine ⟨fun _ => ⟨_, s.pick [2, 4, 6] 7 rfl, kS1⟩, RD.fold ?_⟩
  refine RD.op (i := 1) rfl (by kernel_rfl) (by kernel_rfl) (OK.pure hT (ld := (.slice A9 x8.length u9)) (v := .slice A9 x8.length u9) (c := .cell ⟨b3, 1, none⟩ (.slice A9 x8.length u9)) (by kernel_rfl) (s.cell (i := 3) (off := 1) rfl rfl) ?_)
  refine ⟨fun _ => ⟨_, s.pick [2, 4, 6] 7 rfl, kS1⟩, RD.fold ?_⟩
  have hs4 := St.src s (i := 0) rfl rfl rp18
  have rq4 := rp18
  obtain ⟨x38, hx10, hf⟩ := bindS hf
  refine RD.op (i := 9) rfl (by kernel_rfl) (by kernel_rfl) (OK.app hT (r := rp_T_api_Pair) (i := 5) (t := 22) (e := 48) (size := 2) (bytes := 48) (c := u9) (n := x8.length) (m := 1) s (by kernel_rfl) rfl rfl rfl rfl rfl (by decide) rfl rfl rfl rfl rp2 hs4 rq4 (flat_iso (flat_pair flat_slice flat_slice)) rfl hx10 ?_)
  clear s
  rintro A41 u41 cl20 w28 s k29 rp20
  replace e1 := e1.st k29
  replace e26 := e26.st k29
  replace e27 := e27.st k29
  replace e25 := e25.st k29
  replace rp18 := rp18.st k29
  replace rp4 := rp4.st k29
  replace rp2 := rp2.st k29
  replace rp3 := rp3.st k29
  replace kk := kk.trans k29
  replace kS1 := kS1.trans k29
  refine ⟨fun _ => ⟨_, s.pick [2, 4, 6] 7 rfl, kS1⟩, RD.fold ?_⟩
  refine RD.segM hT ht1 (by kernel_rfl) [10] [] [] [.pointer (some ⟨b3, 1, none⟩)] [] (by kernel_rfl) (fun _ _ => trivial) ⟨_, s.pick [2, 4, 6] 7 rfl, kS1⟩ ?_
  refine RD.op (i := 11) rfl (by kernel_rfl) (by kernel_rfl) (OK.store hT (i := 3) (b := b3) (off := 1) (n := 1) (vs := [.slice A41 x38.length u41]) (cs := [.bool (decide (p0 = 3)), (.slice A9 x8.length u9), .slice A10 x9.length u10, .slice A11 x10.length u11]) (e := 26) s (by kernel_rfl) rfl rfl (flat_ok rfl) (Nat.le_of_ble_eq_true rfl) ?_)
  clear s
  rintro w29 s k30 -
  replace e1 := e1.st k30
  replace e26 := e26.st k30
  replace e27 := e27.st k30
  replace e25 := e25.st k30
  replace rp18 := rp18.st k30
  replace rp4 := rp4.st k30
  replace rp20 := rp20.st k30
  replace rp3 := rp3.st k30
  replace kk := kk.trans k30
  replace kS1 := kS1.trans k30
  refine ⟨fun _ => ⟨_, s.pick [2, 4, 6] 7 rfl, kS1⟩, RD.fold ?_⟩
  refine RD.done (by kernel_rfl) ?_
  exact fun X h => kc (by kernel_rfl) rfl (h I18 x20.1 x20.1 x20.1 x32.1 x35.1 x20.1 x35.1 ([(T_api_Pair.mk x20.1 x35.1)] : List T_api_Pair) x38 x35.2.b x35.2.at_ A19 u19 A19 u19 A19 u19 A38 u38 A19 u19 A38 u38 (some ⟨b6, 0, none⟩) 1 [.slice A19 x20.1.length u19, .slice A38 x35.1.length u38] A41 u41 cl20 A39 u39 _ hf s kk e1 hc26 e26 hc26 e26 hc26 e26 hc27 e27 hc26 e26 hc27 e27 rp18 rp20 hc25 e25 rp4 rp3)
  have hf := iteF h2 hf
  refine WPK.condF (Eq.trans (b := .bool (decide (p0 = 3))) (by kernel_rfl) (bo_f h2)) ?_
  refine WPK.skip ?_
  refine WPK.seq ?_
  refine WPK.region ?_
  refine RW.seg hT 3 [.slice A10 x9.length u10] [] [.pointer (some ⟨b3, 2, none⟩), .slice A10 x9.length u10, .slice A19 n5 u19] [.cell ⟨b3, 2, none⟩ (.slice A10 x9.length u10)] (by kernel_rfl) (s.cell (i := 3) (off := 2) rfl rfl) ?_
  rw [hn1] at s
  try rw [hn1]
  obtain ⟨I19, s', k31, hc28, e28⟩ := St.give s (i := 0) rfl rfl rp8
  replace s := s'; clear s'
  replace e1 := e1.st k31
  replace e9 := e9.st k31
  replace rp4 := rp4.st k31
  replace rp2 := rp2.st k31
  replace rp3 := rp3.st k31
  replace kk := kk.trans k31
  refine RW.op (by kernel_rfl) (OK.new hT (f := fun b => .slice (some ⟨b, 0, none⟩) 1 1) (cs := [.slice A19 x20.1.length u19]) (e := 27) (c := .tt) s (by kernel_rfl) trivial ?_)
  clear s
  rintro w30 b7 s k32 -
  replace e1 := e1.st k32
  replace e28 := e28.st k32
  replace e9 := e9.st k32
  replace rp4 := rp4.st k32
  replace rp2 := rp2.st k32
  replace rp3 := rp3.st k32
  replace kk := kk.trans k32
  have rp21 : RepL (Rp.slice (Rp.int .u8)) I19 w30 [.slice A19 x20.1.length u19] ([x20.1] : List (List Int)) := RepL.cons (c := [.slice A19 x20.1.length u19]) (d := []) (⟨_, _, rfl, hc28.1, hc28.2, e28⟩) (RepL.nil)
  replace s : St w1 M I19 ((.sl (.slice (some ⟨b7, 0, none⟩) 1 1) 27 1 1 [.slice A19 x20.1.length u19]) :: (.blk b2 (.cells #[.slice A20 x20.2.b.length u20, .int .i64 x20.2.at_] 89 (0, 0))) :: (.sl (.slice A11 x10.length u11) 3 1 x10.length cl7) :: (.blk b3 (.cells #[.bool (decide (p0 = 3)), .slice A9 x8.length u9, .slice A10 x9.length u10, .slice A11 x10.length u11] 26 (0, 0))) :: (.blk b1 (.cells #[.bool false, .slice none 0 0, .slice none 0 0, .slice none 0 0] 26 (0, 0))) :: (.sl (.slice A9 x8.length u9) 48 2 x8.length cl5) :: (.sl (.slice A10 x9.length u10) 27 1 x9.length cl6) :: F) w30 := s.blkSl (i := 0) (n := 1) (c := 1) (size := 1) rfl rfl (Nat.le_refl _) (by decide)
  have hs5 := St.src s (i := 0) rfl rfl rp21
  have rq5 := rp21
  obtain ⟨x39, hx11, hf⟩ := bindS hf
  refine RW.op (by kernel_rfl) (OK.app hT (r := (Rp.slice (Rp.int .u8))) (i := 6) (t := 23) (e := 27) (size := 1) (bytes := 24) (c := u10) (n := x9.length) (m := 1) s (by kernel_rfl) rfl rfl rfl rfl rfl (by decide) rfl rfl rfl rfl rp3 hs5 rq5 flat_slice rfl hx11 ?_)
  clear s
  rintro A42 u42 cl21 w31 s k33 rp22
  replace e1 := e1.st k33
  replace e28 := e28.st k33
  replace e9 := e9.st k33
  replace rp21 := rp21.st k33
  replace rp4 := rp4.st k33
  replace rp2 := rp2.st k33
  replace rp3 := rp3.st k33
  replace kk := kk.trans k33
  refine RW.seg hT 1 [] [] [.pointer (some ⟨b3, 2, none⟩)] [] (by kernel_rfl) (trivial) ?_
  refine RW.op (by kernel_rfl) (OK.store hT (i := 3) (b := b3) (off := 2) (n := 1) (vs := [.slice A42 x39.length u42]) (cs := [.bool (decide (p0 = 3)), .slice A9 x8.length u9, (.slice A10 x9.length u10), .slice A11 x10.length u11]) (e := 26) s (by kernel_rfl) rfl rfl (flat_ok rfl) (Nat.le_of_ble_eq_true rfl) ?_)
  clear s
  rintro w32 s k34 -
  replace e1 := e1.st k34
  replace e28 := e28.st k34
  replace e9 := e9.st k34
  replace rp21 := rp21.st k34
  replace rp4 := rp4.st k34
  replace rp2 := rp2.st k34
  replace rp22 := rp22.st k34
  replace kk := kk.trans k34
  refine RW.nil ?_
  have e1S2 := e1
  have e28S2 := e28
  have e9S2 := e9
  have rp21S2 := rp21
  have rp4S2 := rp4
  have rp2S2 := rp2
  have rp22S2 := rp22
  have kS2 : Kp I19 w32 I19 w32 := Kp.refl
  refine WPK.drawM (fun w' => ∃ I' : Nat → Prop, St w1 M I' ((.sl (.slice (some ⟨b7, 0, none⟩) 1 1) 27 1 1 [.slice A19 x20.1.length u19]) :: (.blk b1 (.cells #[.bool false, .slice none 0 0, .slice none 0 0, .slice none 0 0] 26 (0, 0))) :: (.sl (.slice A9 x8.length u9) 48 2 x8.length cl5) :: (.sl (.slice A42 x39.length u42) 27 1 x39.length cl21) :: F) w' ∧ Kp I19 w32 I' w') 12 [0, 1, 0, 4, 12, 0, 44, 124, 252, 511, 1023, 2047] (by kernel_rfl) (by kernel_rfl) ?_
  intro ht2 w33 hd2
  have k35 := Kp.dr s hd2
  replace s := s.dr hd2
  replace e1 := e1.st k35
  replace e28 := e28.st k35
  replace e9 := e9.st k35
  replace rp21 := rp21.st k35
  replace rp4 := rp4.st k35
  replace rp2 := rp2.st k35
  replace rp22 := rp22.st k35
  replace kk := kk.trans k35
  replace kS2 := kS2.trans k35
  refine RD.segM hT ht2 (by kernel_rfl) [0, 2, 5] [] [] [.pointer (some ⟨b3, 3, none⟩), .pointer (some ⟨b2, 0, none⟩), .pointer (some ⟨b2, 0, none⟩)] [] (by kernel_rfl) (fun _ _ => trivial) ⟨_, s.pick [0, 4, 5, 6] 7 rfl, kS2⟩ ?_
  obtain ⟨x40, hx12, hf⟩ := bindS hf
  refine RD.ways [1, 3] (by kernel_rfl) (List.forall_mem_cons.2 ⟨?_, List.forall_mem_cons.2 ⟨?_, fun _ h => nomatch h⟩⟩)
  refine RWay.op rfl (by kernel_rfl) (OK.pure hT (ld := (.slice A11 x10.length u11)) (v := .slice A11 x10.length u11) (c := .cell ⟨b3, 3, none⟩ (.slice A11 x10.length u11)) (by kernel_rfl) (s.cell (i := 3) (off := 3) rfl rfl) ?_)
  refine ⟨fun _ => ⟨_, s.pick [0, 4, 5, 6] 7 rfl, kS2⟩, RD.fold ?_⟩
  replace s := s.pick [1, 0, 2, 3, 4, 5, 6] 7 rfl
  refine RD.op (i := 3) rfl (by kernel_rfl) (by kernel_rfl) (OK.call' en73 (by kernel_rfl) (c73 (F := (.sl (.slice (some ⟨b7, 0, none⟩) 1 1) 27 1 1 [.slice A19 x20.1.length u19]) :: (.sl (.slice A11 x10.length u11) 3 1 x10.length cl7) :: (.blk b3 (.cells #[.bool (decide (p0 = 3)), .slice A9 x8.length u9, .slice A42 x39.length u42, .slice A11 x10.length u11] 26 (0, 0))) :: (.blk b1 (.cells #[.bool false, .slice none 0 0, .slice none 0 0, .slice none 0 0] 26 (0, 0))) :: (.sl (.slice A9 x8.length u9) 48 2 x8.length cl5) :: (.sl (.slice A42 x39.length u42) 27 1 x39.length cl21) :: F) x20.2 b2 A20 u20 hc9 e9 s hx12) ?_)
  intro X14 hX14
  refine fun _ _ hJ => hJ X14 ?_
  clear s
  intro I20 A43 u43 w34 s k36 hc29 e29
  refine hX14 _ _ ?_
  replace e1 := e1.st k36
  replace e28 := e28.st k36
  replace e9 := e9.st k36
  replace rp21 := rp21.st k36
  replace rp4 := rp4.st k36
  replace rp2 := rp2.st k36
  replace rp22 := rp22.st k36
  replace kk := kk.trans k36
  replace kS2 := kS2.trans k36
  refine ⟨fun _ => ⟨_, s.pick [1, 4, 5, 6] 7 rfl, kS2⟩, RD.fold ?_⟩
  refine RD.segM hT ht2 (by kernel_rfl) [4] [] [] [.int .i64 (IntKind.i64.wrap (256 * x40.1))] [] (by kernel_rfl) (fun _ _ => trivial) ⟨_, s.pick [1, 4, 5, 6] 7 rfl, kS2⟩ ?_
  obtain ⟨x41, hx13, hf⟩ := bindS hf
  refine RD.op (i := 6) rfl (by kernel_rfl) (by kernel_rfl) (OK.call' en73 (by kernel_rfl) (c73 (F := (.sl (.slice (some ⟨b7, 0, none⟩) 1 1) 27 1 1 [.slice A19 x20.1.length u19]) :: (.sl (.slice A11 x10.length u11) 3 1 x10.length cl7) :: (.blk b3 (.cells #[.bool (decide (p0 = 3)), .slice A9 x8.length u9, .slice A42 x39.length u42, .slice A11 x10.length u11] 26 (0, 0))) :: (.blk b1 (.cells #[.bool false, .slice none 0 0, .slice none 0 0, .slice none 0 0] 26 (0, 0))) :: (.sl (.slice A9 x8.length u9) 48 2 x8.length cl5) :: (.sl (.slice A42 x39.length u42) 27 1 x39.length cl21) :: F) x40.2 b2 A43 u43 hc29 e29 s hx13) ?_)
  intro X15 hX15
  refine fun _ _ hJ => hJ X15 ?_
  clear s
  intro I21 A44 u44 w35 s k37 hc30 e30
  refine hX15 _ _ ?_
  replace e1 := e1.st k37
  replace e28 := e28.st k37
  replace e29 := e29.st k37
  replace rp21 := rp21.st k37
  replace rp4 := rp4.st k37
  replace rp2 := rp2.st k37
  replace rp22 := rp22.st k37
  replace kk := kk.trans k37
  replace kS2 := kS2.trans k37
  refine ⟨fun _ => ⟨_, s.pick [1, 4, 5, 6] 7 rfl, kS2⟩, RD.fold ?_⟩
  obtain ⟨x42, hx14, hf⟩ := bindS hf
  refine RD.segM hT ht2 (by kernel_rfl) [7] [] [(78, .int .i64 x42)] [.int .i64 x42] [.veq (.int .i64 (IntKind.i64.wrap ((IntKind.i64.wrap (256 * x40.1)) + x41.1))) (.int .i64 x42)] (by kernel_rfl) (by rintro w' ⟨I', s, k⟩; have e1 := e1S2.st k; have e28 := e28S2.st k; have e9 := e9S2.st k; have rp21 := rp21S2.st k; have rp4 := rp4S2.st k; have rp2 := rp2S2.st k; have rp22 := rp22S2.st k; exact int_v (someS hx14)) ⟨_, s.pick [1, 4, 5, 6] 7 rfl, kS2⟩ ?_
  refine RD.op (i := 8) rfl (by kernel_rfl) (by kernel_rfl) (OK.new hT (f := fun b => .slice (some ⟨b, 0, none⟩) 1 1) (cs := [.int .i64 x42]) (e := 3) (c := .tt) s (by kernel_rfl) trivial ?_)
  clear s
  rintro w36 b8 s k38 -
  replace e1 := e1.st k38
  replace e28 := e28.st k38
  replace e30 := e30.st k38
  replace rp21 := rp21.st k38
  replace rp4 := rp4.st k38
  replace rp2 := rp2.st k38
  replace rp22 := rp22.st k38
  replace kk := kk.trans k38
  replace kS2 := kS2.trans k38
  have rp23 : RepL (Rp.int .i64) I21 w36 [.int .i64 x42] ([x42] : List Int) := RepL.cons (c := [.int .i64 x42]) (d := []) (rfl) (RepL.nil)
  replace s : St w1 M I21 ((.sl (.slice (some ⟨b8, 0, none⟩) 1 1) 3 1 1 [.int .i64 x42]) :: (.blk b2 (.cells #[.slice A44 x41.2.b.length u44, .int .i64 x41.2.at_] 89 (0, 0))) :: (.sl (.slice (some ⟨b7, 0, none⟩) 1 1) 27 1 1 [.slice A19 x20.1.length u19]) :: (.sl (.slice A11 x10.length u11) 3 1 x10.length cl7) :: (.blk b3 (.cells #[.bool (decide (p0 = 3)), .slice A9 x8.length u9, .slice A42 x39.length u42, .slice A11 x10.length u11] 26 (0, 0))) :: (.blk b1 (.cells #[.bool false, .slice none 0 0, .slice none 0 0, .slice none 0 0] 26 (0, 0))) :: (.sl (.slice A9 x8.length u9) 48 2 x8.length cl5) :: (.sl (.slice A42 x39.length u42) 27 1 x39.length cl21) :: F) w36 := s.blkSl (i := 0) (n := 1) (c := 1) (size := 1) rfl rfl (Nat.le_refl _) (by decide)
  refine ⟨fun _ => ⟨_, s.pick [2, 5, 6, 7] 8 rfl, kS2⟩, RD.fold ?_⟩
  have hs6 := St.src s (i := 0) rfl rfl rp23
  have rq6 := rp23
  obtain ⟨x43, hx15, hf⟩ := bindS hf
  refine RD.op (i := 9) rfl (by kernel_rfl) (by kernel_rfl) (OK.app hT (r := (Rp.int .i64)) (i := 3) (t := 24) (e := 3) (size := 1) (bytes := 8) (c := u11) (n := x10.length) (m := 1) s (by kernel_rfl) rfl rfl rfl rfl rfl (by decide) rfl rfl rfl rfl rp4 hs6 rq6 flat_int rfl hx15 ?_)
  clear s
  rintro A45 u45 cl22 w37 s k39 rp24
  replace e1 := e1.st k39
  replace e28 := e28.st k39
  replace e30 := e30.st k39
  replace rp23 := rp23.st k39
  replace rp21 := rp21.st k39
  replace rp4 := rp4.st k39
  replace rp2 := rp2.st k39
  replace rp22 := rp22.st k39
  replace kk := kk.trans k39
  replace kS2 := kS2.trans k39
  refine ⟨fun _ => ⟨_, s.pick [2, 5, 6, 7] 8 rfl, kS2⟩, RD.fold ?_⟩
  refine RD.segM hT ht2 (by kernel_rfl) [10] [] [] [.pointer (some ⟨b3, 3, none⟩)] [] (by kernel_rfl) (fun _ _ => trivial) ⟨_, s.pick [2, 5, 6, 7] 8 rfl, kS2⟩ ?_
  refine RD.op (i := 11) rfl (by kernel_rfl) (by kernel_rfl) (OK.store hT (i := 4) (b := b3) (off := 3) (n := 1) (vs := [.slice A45 x43.length u45]) (cs := [.bool (decide (p0 = 3)), .slice A9 x8.length u9, .slice A42 x39.length u42, (.slice A11 x10.length u11)]) (e := 26) s (by kernel_rfl) rfl rfl (flat_ok rfl) (Nat.le_of_ble_eq_true rfl) ?_)
  clear s
  rintro w38 s k40 -
  replace e1 := e1.st k40
  replace e28 := e28.st k40
  replace e30 := e30.st k40
  replace rp23 := rp23.st k40
  replace rp21 := rp21.st k40
  replace rp24 := rp24.st k40
  replace rp2 := rp2.st k40
  replace rp22 := rp22.st k40
  replace kk := kk.trans k40
  replace kS2 := kS2.trans k40
  refine ⟨fun _ => ⟨_, s.pick [2, 5, 6, 7] 8 rfl, kS2⟩, RD.fold ?_⟩
  refine RD.done (by kernel_rfl) ?_
  replace s := s.pick [1, 3, 4, 5, 6, 7] 8 rfl
  exact fun X h => kc (by kernel_rfl) rfl (h I21 x20.1 x19.1 x20.1 x41.2.b x41.2.at_ x8 x39 x43 A19 u19 A19 u19 A44 u44 A9 u9 cl5 A42 u42 cl21 A45 u45 cl22 _ hf s kk e1 hc28 e28 hc28 e28 hc30 e30 rp2 rp22 rp24)
  replace s := s.pick [1, 0, 2, 3, 4, 5, 6] 7 rfl
  refine RWay.op rfl (by kernel_rfl) (OK.call' en73 (by kernel_rfl) (c73 (F := (.sl (.slice (some ⟨b7, 0, none⟩) 1 1) 27 1 1 [.slice A19 x20.1.length u19]) :: (.sl (.slice A11 x10.length u11) 3 1 x10.length cl7) :: (.blk b3 (.cells #[.bool (decide (p0 = 3)), .slice A9 x8.length u9, .slice A42 x39.length u42, .slice A11 x10.length u11] 26 (0, 0))) :: (.blk b1 (.cells #[.bool false, .slice none 0 0, .slice none 0 0, .slice none 0 0] 26 (0, 0))) :: (.sl (.slice A9 x8.length u9) 48 2 x8.length cl5) :: (.sl (.slice A42 x39.length u42) 27 1 x39.length cl21) :: F) x20.2 b2 A20 u20 hc9 e9 s hx12) ?_)
  intro X16 hX16
  refine fun _ _ hJ => hJ X16 ?_
  clear s
  intro I22 A46 u46 w39 s k41 hc31 e31
  refine hX16 _ _ ?_
  replace e1 := e1.st k41
  replace e28 := e28.st k41
  replace e9 := e9.st k41
  replace rp21 := rp21.st k41
  replace rp4 := rp4.st k41
  replace rp2 := rp2.st k41
  replace rp22 := rp22.st k41
  replace kk := kk.trans k41
  replace kS2 := kS2.trans k41
  refine ⟨fun _ => ⟨_, s.pick [1, 4, 5, 6] 7 rfl, kS2⟩, RD.fold ?_⟩
  refine RD.segM hT ht2 (by kernel_rfl) [4] [] [] [.int .i64 (IntKind.i64.wrap (256 * x40.1))] [] (by kernel_rfl) (fun _ _ => trivial) ⟨_, s.pick [1, 4, 5, 6] 7 rfl, kS2⟩ ?_
  obtain ⟨x44, hx16, hf⟩ := bindS hf
  refine RD.ways [1, 6] (by kernel_rfl) (List.forall_mem_cons.2 ⟨?_, List.forall_mem_cons.2 ⟨?_, fun _ h => nomatch h⟩⟩)
  refine RWay.op rfl (by kernel_rfl) (OK.pure hT (ld := (.slice A11 x10.length u11)) (v := .slice A11 x10.length u11) (c := .cell ⟨b3, 3, none⟩ (.slice A11 x10.length u11)) (by kernel_rfl) (s.cell (i := 3) (off := 3) rfl rfl) ?_)
  refine ⟨fun _ => ⟨_, s.pick [1, 4, 5, 6] 7 rfl, kS2⟩, RD.fold ?_⟩
  refine RD.op (i := 6) rfl (by kernel_rfl) (by kernel_rfl) (OK.call' en73 (by kernel_rfl) (c73 (F := (.sl (.slice (some ⟨b7, 0, none⟩) 1 1) 27 1 1 [.slice A19 x20.1.length u19]) :: (.sl (.slice A11 x10.length u11) 3 1 x10.length cl7) :: (.blk b3 (.cells #[.bool (decide (p0 = 3)), .slice A9 x8.length u9, .slice A42 x39.length u42, .slice A11 x10.length u11] 26 (0, 0))) :: (.blk b1 (.cells #[.bool false, .slice none 0 0, .slice none 0 0, .slice none 0 0] 26 (0, 0))) :: (.sl (.slice A9 x8.length u9) 48 2 x8.length cl5) :: (.sl (.slice A42 x39.length u42) 27 1 x39.length cl21) :: F) x40.2 b2 A46 u46 hc31 e31 s hx16) ?_)
  intro X17 hX17
  refine fun _ _ hJ => hJ X17 ?_
  clear s
  intro I23 A47 u47 w40 s k42 hc32 e32
  refine hX17 _ _ ?_
  replace e1 := e1.st k42
  replace e28 := e28.st k42
  replace e31 := e31.st k42
  replace rp21 := rp21.st k42
  replace rp4 := rp4.st k42
  replace rp2 := rp2.st k42
  replace rp22 := rp22.st k42
  replace kk := kk.trans k42
  replace kS2 := kS2.trans k42
  refine ⟨fun _ => ⟨_, s.pick [1, 4, 5, 6] 7 rfl, kS2⟩, RD.fold ?_⟩
  obtain ⟨x45, hx17, hf⟩ := bindS hf
  refine RD.segM hT ht2 (by kernel_rfl) [7] [] [(78, .int .i64 x45)] [.int .i64 x45] [.veq (.int .i64 (IntKind.i64.wrap ((IntKind.i64.wrap (256 * x40.1)) + x44.1))) (.int .i64 x45)] (by kernel_rfl) (by rintro w' ⟨I', s, k⟩; have e1 := e1S2.st k; have e28 := e28S2.st k; have e9 := e9S2.st k; have rp21 := rp21S2.st k; have rp4 := rp4S2.st k; have rp2 := rp2S2.st k; have rp22 := rp22S2.st k; exact int_v (someS hx17)) ⟨_, s.pick [1, 4, 5, 6] 7 rfl, kS2⟩ ?_
  refine RD.op (i := 8) rfl (by kernel_rfl) (by kernel_rfl) (OK.new hT (f := fun b => .slice (some ⟨b, 0, none⟩) 1 1) (cs := [.int .i64 x45]) (e := 3) (c := .tt) s (by kernel_rfl) trivial ?_)
  clear s
  rintro w41 b9 s k43 -
  replace e1 := e1.st k43
  replace e28 := e28.st k43
  replace e32 := e32.st k43
  replace rp21 := rp21.st k43
  replace rp4 := rp4.st k43
  replace rp2 := rp2.st k43
  replace rp22 := rp22.st k43
  replace kk := kk.trans k43
  replace kS2 := kS2.trans k43
  have rp25 : RepL (Rp.int .i64) I23 w41 [.int .i64 x45] ([x45] : List Int) := RepL.cons (c := [.int .i64 x45]) (d := []) (rfl) (RepL.nil)
  replace s : St w1 M I23 ((.sl (.slice (some ⟨b9, 0, none⟩) 1 1) 3 1 1 [.int .i64 x45]) :: (.blk b2 (.cells #[.slice A47 x44.2.b.length u47, .int .i64 x44.2.at_] 89 (0, 0))) :: (.sl (.slice (some ⟨b7, 0, none⟩) 1 1) 27 1 1 [.slice A19 x20.1.length u19]) :: (.sl (.slice A11 x10.length u11) 3 1 x10.length cl7) :: (.blk b3 (.cells #[.bool (decide (p0 = 3)), .slice A9 x8.length u9, .slice A42 x39.length u42, .slice A11 x10.length u11] 26 (0, 0))) :: (.blk b1 (.cells #[.bool false, .slice none 0 0, .slice none 0 0, .slice none 0 0] 26 (0, 0))) :: (.sl (.slice A9 x8.length u9) 48 2 x8.length cl5) :: (.sl (.slice A42 x39.length u42) 27 1 x39.length cl21) :: F) w41 := s.blkSl (i := 0) (n := 1) (c := 1) (size := 1) rfl rfl (Nat.le_refl _) (by decide)
  refine ⟨fun _ => ⟨_, s.pick [2, 5, 6, 7] 8 rfl, kS2⟩, RD.fold ?_⟩
  have hs7 := St.src s (i := 0) rfl rfl rp25
  have rq7 := rp25
  obtain ⟨x46, hx18, hf⟩ := bindS hf
  refine RD.op (i := 9) rfl (by kernel_rfl) (by kernel_rfl) (OK.app hT (r := (Rp.int .i64)) (i := 3) (t := 24) (e := 3) (size := 1) (bytes := 8) (c := u11) (n := x10.length) (m := 1) s (by kernel_rfl) rfl rfl rfl rfl rfl (by decide) rfl rfl rfl rfl rp4 hs7 rq7 flat_int rfl hx18 ?_)
  clear s
  rintro A48 u48 cl23 w42 s k44 rp26
  replace e1 := e1.st k44
  replace e28 := e28.st k44
  replace e32 := e32.st k44
  replace rp25 := rp25.st k44
  replace rp21 := rp21.st k44
  replace rp4 := rp4.st k44
  replace rp2 := rp2.st k44
  replace rp22 := rp22.st k44
  replace kk := kk.trans k44
  replace kS2 := kS2.trans k44
  refine ⟨fun _ => ⟨_, s.pick [2, 5, 6, 7] 8 rfl, kS2⟩, RD.fold ?_⟩
  refine RD.segM hT ht2 (by kernel_rfl) [10] [] [] [.pointer (some ⟨b3, 3, none⟩)] [] (by kernel_rfl) (fun _ _ => trivial) ⟨_, s.pick [2, 5, 6, 7] 8 rfl, kS2⟩ ?_
  refine RD.op (i := 11) rfl (by kernel_rfl) (by kernel_rfl) (OK.store hT (i := 4) (b := b3) (off := 3) (n := 1) (vs := [.slice A48 x46.length u48]) (cs := [.bool (decide (p0 = 3)), .slice A9 x8.length u9, .slice A42 x39.length u42, (.slice A11 x10.length u11)]) (e := 26) s (by kernel_rfl) rfl rfl (flat_ok rfl) (Nat.le_of_ble_eq_true rfl) ?_)
  clear s
  rintro w43 s k45 -
  replace e1 := e1.st k45
  replace e28 := e28.st k45
  replace e32 := e32.st k45
  replace rp25 := rp25.st k45
  replace rp21 := rp21.st k45
  replace rp26 := rp26.st k45
  replace rp2 := rp2.st k45
  replace rp22 := rp22.st k45
  replace kk := kk.trans k45
  replace kS2 := kS2.trans k45
  refine ⟨fun _ => ⟨_, s.pick [2, 5, 6, 7] 8 rfl, kS2⟩, RD.fold ?_⟩
  refine RD.done (by kernel_rfl) ?_
  replace s := s.pick [1, 3, 4, 5, 6, 7] 8 rfl
  exact fun X h => kc (by kernel_rfl) rfl (h I23 x20.1 x19.1 x20.1 x44.2.b x44.2.at_ x8 x39 x46 A19 u19 A19 u19 A47 u47 A9 u9 cl5 A42 u42 cl21 A48 u48 cl23 _ hf s kk e1 hc28 e28 hc28 e28 hc32 e32 rp2 rp22 rp26)
  refine RWay.op rfl (by kernel_rfl) (OK.call' en73 (by kernel_rfl) (c73 (F := (.sl (.slice (some ⟨b7, 0, none⟩) 1 1) 27 1 1 [.slice A19 x20.1.length u19]) :: (.sl (.slice A11 x10.length u11) 3 1 x10.length cl7) :: (.blk b3 (.cells #[.bool (decide (p0 = 3)), .slice A9 x8.length u9, .slice A42 x39.length u42, .slice A11 x10.length u11] 26 (0, 0))) :: (.blk b1 (.cells #[.bool false, .slice none 0 0, .slice none 0 0, .slice none 0 0] 26 (0, 0))) :: (.sl (.slice A9 x8.length u9) 48 2 x8.length cl5) :: (.sl (.slice A42 x39.length u42) 27 1 x39.length cl21) :: F) x40.2 b2 A46 u46 hc31 e31 s hx16) ?_)
  intro X18 hX18
  refine fun _ _ hJ => hJ X18 ?_
  clear s
  intro I24 A49 u49 w44 s k46 hc33 e33
  refine hX18 _ _ ?_
  replace e1 := e1.st k46
  replace e28 := e28.st k46
  replace e31 := e31.st k46
  replace rp21 := rp21.st k46
  replace rp4 := rp4.st k46
  replace rp2 := rp2.st k46
  replace rp22 := rp22.st k46
  replace kk := kk.trans k46
  replace kS2 := kS2.trans k46
  refine ⟨fun _ => ⟨_, s.pick [1, 4, 5, 6] 7 rfl, kS2⟩, RD.fold ?_⟩
  obtain ⟨x47, hx19, hf⟩ := bindS hf
  refine RD.segM hT ht2 (by kernel_rfl) [7] [] [(78, .int .i64 x47)] [.int .i64 x47] [.veq (.int .i64 (IntKind.i64.wrap ((IntKind.i64.wrap (256 * x40.1)) + x44.1))) (.int .i64 x47)] (by kernel_rfl) (by rintro w' ⟨I', s, k⟩; have e1 := e1S2.st k; have e28 := e28S2.st k; have e9 := e9S2.st k; have rp21 := rp21S2.st k; have rp4 := rp4S2.st k; have rp2 := rp2S2.st k; have rp22 := rp22S2.st k; exact int_v (someS hx19)) ⟨_, s.pick [1, 4, 5, 6] 7 rfl, kS2⟩ ?_
  refine RD.ways [1, 8] (by kernel_rfl) (List.forall_mem_cons.2 ⟨?_, List.forall_mem_cons.2 ⟨?_, fun _ h => nomatch h⟩⟩)
  refine RWay.op rfl (by kernel_rfl) (OK.pure hT (ld := (.slice A11 x10.length u11)) (v := .slice A11 x10.length u11) (c := .cell ⟨b3, 3, none⟩ (.slice A11 x10.length u11)) (by kernel_rfl) (s.cell (i := 3) (off := 3) rfl rfl) ?_)
  refine ⟨fun _ => ⟨_, s.pick [1, 4, 5, 6] 7 rfl, kS2⟩, RD.fold ?_⟩
  refine RD.op (i := 8) rfl (by kernel_rfl) (by kernel_rfl) (OK.new hT (f := fun b => .slice (some ⟨b, 0, none⟩) 1 1) (cs := [.int .i64 x47]) (e := 3) (c := .tt) s (by kernel_rfl) trivial ?_)
  clear s
  rintro w45 b10 s k47 -
  replace e1 := e1.st k47
  replace e28 := e28.st k47
  replace e33 := e33.st k47
  replace rp21 := rp21.st k47
  replace rp4 := rp4.st k47
  replace rp2 := rp2.st k47
  replace rp22 := rp22.st k47
  replace kk := kk.trans k47
  replace kS2 := kS2.trans k47
  have rp27 : RepL (Rp.int .i64) I24 w45 [.int .i64 x47] ([x47] : List Int) := RepL.cons (c := [.int .i64 x47]) (d := []) (rfl) (RepL.nil)
  replace s : St w1 M I24 ((.sl (.slice (some ⟨b10, 0, none⟩) 1 1) 3 1 1 [.int .i64 x47]) :: (.blk b2 (.cells #[.slice A49 x44.2.b.length u49, .int .i64 x44.2.at_] 89 (0, 0))) :: (.sl (.slice (some ⟨b7, 0, none⟩) 1 1) 27 1 1 [.slice A19 x20.1.length u19]) :: (.sl (.slice A11 x10.length u11) 3 1 x10.length cl7) :: (.blk b3 (.cells #[.bool (decide (p0 = 3)), .slice A9 x8.length u9, .slice A42 x39.length u42, .slice A11 x10.length u11] 26 (0, 0))) :: (.blk b1 (.cells #[.bool false, .slice none 0 0, .slice none 0 0, .slice none 0 0] 26 (0, 0))) :: (.sl (.slice A9 x8.length u9) 48 2 x8.length cl5) :: (.sl (.slice A42 x39.length u42) 27 1 x39.length cl21) :: F) w45 := s.blkSl (i := 0) (n := 1) (c := 1) (size := 1) rfl rfl (Nat.le_refl _) (by decide)
  refine ⟨fun _ => ⟨_, s.pick [2, 5, 6, 7] 8 rfl, kS2⟩, RD.fold ?_⟩
  have hs8 := St.src s (i := 0) rfl rfl rp27
  have rq8 := rp27
  obtain ⟨x48, hx20, hf⟩ := bindS hf
  refine RD.op (i := 9) rfl (by kernel_rfl) (by kernel_rfl) (OK.app hT (r := (Rp.int .i64)) (i := 3) (t := 24) (e := 3) (size := 1) (bytes := 8) (c := u11) (n := x10.length) (m := 1) s (by kernel_rfl) rfl rfl rfl rfl rfl (by decide) rfl rfl rfl rfl rp4 hs8 rq8 flat_int rfl hx20 ?_)
  clear s
  rintro A50 u50 cl24 w46 s k48 rp28
  replace e1 := e1.st k48
  replace e28 := e28.st k48
  replace e33 := e33.st k48
  replace rp27 := rp27.st k48
  replace rp21 := rp21.st k48
  replace rp4 := rp4.st k48
  replace rp2 := rp2.st k48
  replace rp22 := rp22.st k48
  replace kk := kk.trans k48
  replace kS2 := kS2.trans k48
  refine ⟨fun _ => ⟨_, s.pick [2, 5, 6, 7] 8 rfl, kS2⟩, RD.fold ?_⟩
  refine RD.segM hT ht2 (by kernel_rfl) [10] [] [] [.pointer (some ⟨b3, 3, none⟩)] [] (by kernel_rfl) (fun _ _ => trivial) ⟨_, s.pick [2, 5, 6, 7] 8 rfl, kS2⟩ ?_
  refine RD.op (i := 11) rfl (by kernel_rfl) (by kernel_rfl) (OK.store hT (i := 4) (b := b3) (off := 3) (n := 1) (vs := [.slice A50 x48.length u50]) (cs := [.bool (decide (p0 = 3)), .slice A9 x8.length u9, .slice A42 x39.length u42, (.slice A11 x10.length u11)]) (e := 26) s (by kernel_rfl) rfl rfl (flat_ok rfl) (Nat.le_of_ble_eq_true rfl) ?_)
  clear s
  rintro w47 s k49 -
  replace e1 := e1.st k49
  replace e28 := e28.st k49
  replace e33 := e33.st k49
  replace rp27 := rp27.st k49
  replace rp21 := rp21.st k49
  replace rp28 := rp28.st k49
  replace rp2 := rp2.st k49
  replace rp22 := rp22.st k49
  replace kk := kk.trans k49
  replace kS2 := kS2.trans k49
  refine ⟨fun _ => ⟨_, s.pick [2, 5, 6, 7] 8 rfl, kS2⟩, RD.fold ?_⟩
  refine RD.done (by kernel_rfl) ?_
  replace s := s.pick [1, 3, 4, 5, 6, 7] 8 rfl
  exact fun X h => kc (by kernel_rfl) rfl (h I24 x20.1 x19.1 x20.1 x44.2.b x44.2.at_ x8 x39 x48 A19 u19 A19 u19 A49 u49 A9 u9 cl5 A42 u42 cl21 A50 u50 cl24 _ hf s kk e1 hc28 e28 hc28 e28 hc33 e33 rp2 rp22 rp28)
  refine RWay.op rfl (by kernel_rfl) (OK.new hT (f := fun b => .slice (some ⟨b, 0, none⟩) 1 1) (cs := [.int .i64 x47]) (e := 3) (c := .tt) s (by kernel_rfl) trivial ?_)
  clear s
  rintro w45 b10 s k47 -
  replace e1 := e1.st k47
  replace e28 := e28.st k47
  replace e33 := e33.st k47
  replace rp21 := rp21.st k47
  replace rp4 := rp4.st k47
  replace rp2 := rp2.st k47
  replace rp22 := rp22.st k47
  replace kk := kk.trans k47
  replace kS2 := kS2.trans k47
  have rp27 : RepL (Rp.int .i64) I24 w45 [.int .i64 x47] ([x47] : List Int) := RepL.cons (c := [.int .i64 x47]) (d := []) (rfl) (RepL.nil)
  replace s : St w1 M I24 ((.sl (.slice (some ⟨b10, 0, none⟩) 1 1) 3 1 1 [.int .i64 x47]) :: (.blk b2 (.cells #[.slice A49 x44.2.b.length u49, .int .i64 x44.2.at_] 89 (0, 0))) :: (.sl (.slice (some ⟨b7, 0, none⟩) 1 1) 27 1 1 [.slice A19 x20.1.length u19]) :: (.sl (.slice A11 x10.length u11) 3 1 x10.length cl7) :: (.blk b3 (.cells #[.bool (decide (p0 = 3)), .slice A9 x8.length u9, .slice A42 x39.length u42, .slice A11 x10.length u11] 26 (0, 0))) :: (.blk b1 (.cells #[.bool false, .slice none 0 0, .slice none 0 0, .slice none 0 0] 26 (0, 0))) :: (.sl (.slice A9 x8.length u9) 48 2 x8.length cl5) :: (.sl (.slice A42 x39.length u42) 27 1 x39.length cl21) :: F) w45 := s.blkSl (i := 0) (n := 1) (c := 1) (size := 1) rfl rfl (Nat.le_refl _) (by decide)
  refine ⟨fun _ => ⟨_, s.pick [2, 5, 6, 7] 8 rfl, kS2⟩, RD.fold ?_⟩
  refine RD.op (i := 1) rfl (by kernel_rfl) (by kernel_rfl) (OK.pure hT (ld := (.slice A11 x10.length u11)) (v := .slice A11 x10.length u11) (c := .cell ⟨b3, 3, none⟩ (.slice A11 x10.length u11)) (by kernel_rfl) (s.cell (i := 4) (off := 3) rfl rfl) ?_)
  refine ⟨fun _ => ⟨_, s.pick [2, 5, 6, 7] 8 rfl, kS2⟩, RD.fold ?_⟩
  have hs9 := St.src s (i := 0) rfl rfl rp27
  have rq9 := rp27
  obtain ⟨x49, hx21, hf⟩ := bindS hf
  refine RD.op (i := 9) rfl (by kernel_rfl) (by kernel_rfl) (OK.app hT (r := (Rp.int .i64)) (i := 3) (t := 24) (e := 3) (size := 1) (bytes := 8) (c := u11) (n := x10.length) (m := 1) s (by kernel_rfl) rfl rfl rfl rfl rfl (by decide) rfl rfl rfl rfl rp4 hs9 rq9 flat_int rfl hx21 ?_)
  clear s
  rintro A51 u51 cl25 w48 s k50 rp29
  replace e1 := e1.st k50
  replace e28 := e28.st k50
  replace e33 := e33.st k50
  replace rp27 := rp27.st k50
  replace rp21 := rp21.st k50
  replace rp4 := rp4.st k50
  replace rp2 := rp2.st k50
  replace rp22 := rp22.st k50
  replace kk := kk.trans k50
  replace kS2 := kS2.trans k50
  refine ⟨fun _ => ⟨_, s.pick [2, 5, 6, 7] 8 rfl, kS2⟩, RD.fold ?_⟩
  refine RD.segM hT ht2 (by kernel_rfl) [10] [] [] [.pointer (some ⟨b3, 3, none⟩)] [] (by kernel_rfl) (fun _ _ => trivial) ⟨_, s.pick [2, 5, 6, 7] 8 rfl, kS2⟩ ?_
  refine RD.op (i := 11) rfl (by kernel_rfl) (by kernel_rfl) (OK.store hT (i := 4) (b := b3) (off := 3) (n := 1) (vs := [.slice A51 x49.length u51]) (cs := [.bool (decide (p0 = 3)), .slice A9 x8.length u9, .slice A42 x39.length u42, (.slice A11 x10.length u11)]) (e := 26) s (by kernel_rfl) rfl rfl (flat_ok rfl) (Nat.le_of_ble_eq_true rfl) ?_)
  clear s
  rintro w49 s k51 -
  replace e1 := e1.st k51
  replace e28 := e28.st k51
  replace e33 := e33.st k51
  replace rp27 := rp27.st k51
  replace rp21 := rp21.st k51
  replace rp29 := rp29.st k51
  replace rp2 := rp2.st k51
  replace rp22 := rp22.st k51
  replace kk := kk.trans k51
  replace kS2 := kS2.trans k51
  refine ⟨fun _ => ⟨_, s.pick [2, 5, 6, 7] 8 rfl, kS2⟩, RD.fold ?_⟩
  refine RD.done (by kernel_rfl) ?_
  replace s := s.pick [1, 3, 4, 5, 6, 7] 8 rfl
  exact fun X h => kc (by kernel_rfl) rfl (h I24 x20.1 x19.1 x20.1 x44.2.b x44.2.at_ x8 x39 x49 A19 u19 A19 u19 A49 u49 A9 u9 cl5 A42 u42 cl21 A51 u51 cl25 _ hf s kk e1 hc28 e28 hc28 e28 hc33 e33 rp2 rp22 rp29)
  have hf := iteF h1 hf
  refine WPK.condF (Eq.trans (b := .bool (decide (x5 < x1.1))) (by kernel_rfl) (bo_f h1)) ?_
  refine WPK.exit (blockQ.same ?_)
  refine WPK.seq ?_
  refine WPK.region ?_
  refine RW.seg hT 1 [.agg #[.bool (decide (p0 = 3)), .slice A9 x8.length u9, .slice A10 x9.length u10, .slice A11 x10.length u11]] [] [.agg #[.bool (decide (p0 = 3)), .slice A9 x8.length u9, .slice A10 x9.length u10, .slice A11 x10.length u11]] [.cells ⟨b3, 0, none⟩ [.bool (decide (p0 = 3)), .slice A9 x8.length u9, .slice A10 x9.length u10, .slice A11 x10.length u11] 4] (by kernel_rfl) (s.cells (i := 2) rfl rfl rfl) ?_
  have sa1 := s
  obtain ⟨hc34, e34⟩ := St.lend s (i := 4) rfl rfl rp2
  have k52 := Kp.shut (I := I3) (w := w8) (p := .sl (.slice A9 x8.length u9) 48 2 x8.length cl5)
  replace s := s.shut 4 rfl
  have sa2 := s
  obtain ⟨hc35, e35⟩ := St.lend s (i := 4) rfl rfl (rp3.st k52)
  have k53 := Kp.shut (I := (fun k => I3 k ∨ (It.sl (.slice A9 x8.length u9) 48 2 x8.length cl5).foot = some k)) (w := w8) (p := .sl (.slice A10 x9.length u10) 27 1 x9.length cl6)
  replace s := s.shut 4 rfl
  replace e34 := e34.st k53
  have sa3 := s
  obtain ⟨hc36, e36⟩ := St.lend s (i := 0) rfl rfl ((rp4.st k52).st k53)
  have k54 := Kp.shut (I := (fun k => (fun k => I3 k ∨ (It.sl (.slice A9 x8.length u9) 48 2 x8.length cl5).foot = some k) k ∨ (It.sl (.slice A10 x9.length u10) 27 1 x9.length cl6).foot = some k)) (w := w8) (p := .sl (.slice A11 x10.length u11) 3 1 x10.length cl7)
  replace s := s.shut 0 rfl
  replace e34 := e34.st k54
  replace e35 := e35.st k54
  obtain ⟨x50, hx22, hf⟩ := bindS hf
  refine RW.op (by kernel_rfl) (OK.call' en31 (by kernel_rfl) (c31 (F := (.blk b2 (.cells #[.slice A8 x6.length u8, .int .i64 x7] 89 (0, 0))) :: (.blk b3 (.cells #[.bool (decide (p0 = 3)), .slice A9 x8.length u9, .slice A10 x9.length u10, .slice A11 x10.length u11] 26 (0, 0))) :: (.blk b1 (.cells #[.bool false, .slice none 0 0, .slice none 0 0, .slice none 0 0] 26 (0, 0))) :: F) (T_api_Node.mk (decide (p0 = 3)) x8 x9 x10) A9 u9 A10 u10 A11 u11 hc34 e34 hc35 e35 hc36 e36 s hx22) ?_)
  intro X19 hX19
  refine fun _ _ hJ => hJ X19 ?_
  clear s
  intro I25 A52 n9 u52 cl26 w50 s k55 hn5 rp30
  refine hX19 _ _ ?_
  have s' := St.back sa3 (i := 0) rfl s k55
  replace k55 := Kp.back sa3 (i := 0) rfl k55
  replace s := s'; clear s'
  have s' := St.back sa2 (i := 4) rfl s k55
  replace k55 := Kp.back sa2 (i := 4) rfl k55
  replace s := s'; clear s'
  have s' := St.back sa1 (i := 4) rfl s k55
  replace k55 := Kp.back sa1 (i := 4) rfl k55
  replace s := s'; clear s'
  obtain ⟨I26, s, k55⟩ : ∃ I : Nat → Prop, St w1 M I ((.sl (.slice A9 x8.length u9) 48 2 x8.length cl5) :: (.sl (.slice A10 x9.length u10) 27 1 x9.length cl6) :: (.sl (.slice A11 x10.length u11) 3 1 x10.length cl7) :: (.sl (.slice A52 n9 u52) 5 1 n9 cl26) :: (.blk b2 (.cells #[.slice A8 x6.length u8, .int .i64 x7] 89 (0, 0))) :: (.blk b3 (.cells #[.bool (decide (p0 = 3)), .slice A9 x8.length u9, .slice A10 x9.length u10, .slice A11 x10.length u11] 26 (0, 0))) :: (.blk b1 (.cells #[.bool false, .slice none 0 0, .slice none 0 0, .slice none 0 0] 26 (0, 0))) :: F) w50 ∧ Kp _ _ I _ := ⟨_, s, k55⟩
  replace rp30 := RepL.free (I' := I26) (w' := w50) free_int rp30
  replace e1 := e1.st k55
  replace e4 := e4.st k55
  replace rp2 := rp2.st k55
  replace rp3 := rp3.st k55
  replace rp4 := rp4.st k55
  replace kk := kk.trans k55
  refine RW.seg hT 7 [] [] [.tuple #[.int .i64 x50.1, .slice A52 n9 u52, .int .i64 x50.2.2], .int .i64 x50.1, .slice A52 n9 u52, .int .i64 x50.2.2, .int .i64 x50.1, .slice A52 n9 u52, .int .i64 x50.2.2] [] (by kernel_rfl) (trivial) ?_
  refine RW.nil ?_
  refine WPK.seq ?_
  refine WPK.seq ?_
  refine WPK.region ?_
  refine RW.seg hT 2 [] [(89, .bool (decide (x50.2.2 ≠ 0)))] [.int .i64 x50.2.2, .bool (decide (x50.2.2 ≠ 0))] [.veq (.bool (x50.2.2 != 0)) (.bool (decide (x50.2.2 ≠ 0)))] (by kernel_rfl) (ne_v) ?_
  by_cases h3 : x50.2.2 ≠ 0
  have hf := iteT h3 hf
  refine RW.seg hT 7 [] [(90, .bool true)] [.bool true, undef, undef, undef, undef, undef, .bool true] [.veq (.bool (decide (x50.2.2 ≠ 0))) (.bool true)] (by kernel_rfl) (bo_t h3) ?_
  refine RW.nil ?_
  refine WPK.condT (by kernel_rfl) ?_
  refine WPK.seq ?_
  refine WPK.region ?_
  refine RW.seg hT 1 [] [] [.agg #[.bool false, .slice none 0 0, .slice none 0 0, .slice none 0 0]] [] (by kernel_rfl) (trivial) ?_
  refine RW.op (by kernel_rfl) (OK.store hT (i := 6) (b := b1) (off := 0) (n := 4) (vs := [.bool false, .slice none 0 0, .slice none 0 0, .slice none 0 0]) (cs := [.bool false, .slice none 0 0, .slice none 0 0, .slice none 0 0]) (e := 26) s (by kernel_rfl) rfl rfl (flat_ok rfl) (Nat.le_of_ble_eq_true rfl) ?_)
  clear s
  rintro w51 s k56 -
  replace e1 := e1.st k56
  replace e4 := e4.st k56
  replace rp2 := rp2.st k56
  replace rp3 := rp3.st k56
  replace rp4 := rp4.st k56
  replace rp30 := rp30.st k56
  replace kk := kk.trans k56
  refine RW.seg hT 1 [] [] [.int .i64 100] [] (by kernel_rfl) (trivial) ?_
  refine RW.nil ?_
  refine WPK.ret (?_)
  obtain rfl := someS hf
  refine Fin.of (rs := [.cell 4 26, .tmp 5]) hT [.agg #[.bool false, .slice none 0 0, .slice none 0 0, .slice none 0 0]] (.tuple #[.agg #[.bool false, .slice none 0 0, .slice none 0 0, .slice none 0 0], .int .i64 100]) [.cells ⟨b1, 0, none⟩ [.bool false, .slice none 0 0, .slice none 0 0, .slice none 0 0] 4] rfl (by kernel_rfl) (s.cells (i := 6) rfl rfl rfl) ?_
  replace s := s.pushNil 48 2
  replace s := s.pushNil 27 1
  replace s := s.pushNil 3 1
  replace s := s.pick [2, 1, 0] 10 rfl
  exact fun X h => vc rfl (h I26 none 0 0 [] none 0 0 [] none 0 0 [] _ s kk rfl (RepL.nil (r := rp_T_api_Pair)) rfl (RepL.nil (r := (Rp.slice (Rp.int .u8)))) rfl (RepL.nil (r := (Rp.int .i64))))
  have hf := iteF h3 hf
  refine RW.seg hT 7 [.string (strOfNums x50.2.1), .string (strOfNums p1)] [(90, .bool false), (95, .bool (decide ((strOfNums x50.2.1).toList ≠ (strOfNums p1).toList)))] [.bool false, .slice A52 n9 u52, .string (strOfNums x50.2.1), .slice A1 p1.length u1, .string (strOfNums p1), .bool (decide ((strOfNums x50.2.1).toList ≠ (strOfNums p1).toList)), .bool (decide ((strOfNums x50.2.1).toList ≠ (strOfNums p1).toList))] [.veq (.bool (decide (x50.2.2 ≠ 0))) (.bool false), .bytes A52 n9 (strOfNums x50.2.1), .bytes A1 p1.length (strOfNums p1), .veq (.bool (!((strOfNums x50.2.1).toList == (strOfNums p1).toList))) (.bool (decide ((strOfNums x50.2.1).toList ≠ (strOfNums p1).toList)))] (by kernel_rfl) (⟨bo_f h3, St.bytes s (i := 3) rfl hn5 rp30, Elems.bytes e1, bne_v⟩) ?_
  refine RW.nil ?_
  by_cases h4 : (strOfNums x50.2.1).toList ≠ (strOfNums p1).toList
  have hf := iteT h4 hf
  refine WPK.condT (Eq.trans (b := .bool (decide ((strOfNums x50.2.1).toList ≠ (strOfNums p1).toList))) (by kernel_rfl) (bo_t h4)) ?_
  refine WPK.seq ?_
  refine WPK.region ?_
  refine RW.seg hT 1 [] [] [.agg #[.bool false, .slice none 0 0, .slice none 0 0, .slice none 0 0]] [] (by kernel_rfl) (trivial) ?_
  refine RW.op (by kernel_rfl) (OK.store hT (i := 6) (b := b1) (off := 0) (n := 4) (vs := [.bool false, .slice none 0 0, .slice none 0 0, .slice none 0 0]) (cs := [.bool false, .slice none 0 0, .slice none 0 0, .slice none 0 0]) (e := 26) s (by kernel_rfl) rfl rfl (flat_ok rfl) (Nat.le_of_ble_eq_true rfl) ?_)
  clear s
  rintro w52 s k57 -
  replace e1 := e1.st k57
  replace e4 := e4.st k57
  replace rp2 := rp2.st k57
  replace rp3 := rp3.st k57
  replace rp4 := rp4.st k57
  replace rp30 := rp30.st k57
  replace kk := kk.trans k57
  refine RW.seg hT 1 [] [] [.int .i64 100] [] (by kernel_rfl) (trivial) ?_
  refine RW.nil ?_
  refine WPK.ret (?_)
  obtain rfl := someS hf
  refine Fin.of (rs := [.cell 4 26, .tmp 5]) hT [.agg #[.bool false, .slice none 0 0, .slice none 0 0, .slice none 0 0]] (.tuple #[.agg #[.bool false, .slice none 0 0, .slice none 0 0, .slice none 0 0], .int .i64 100]) [.cells ⟨b1, 0, none⟩ [.bool false, .slice none 0 0, .slice none 0 0, .slice none 0 0] 4] rfl (by kernel_rfl) (s.cells (i := 6) rfl rfl rfl) ?_
  replace s := s.pushNil 48 2
  replace s := s.pushNil 27 1
  replace s := s.pushNil 3 1
  replace s := s.pick [2, 1, 0] 10 rfl
  exact fun X h => vc rfl (h I26 none 0 0 [] none 0 0 [] none 0 0 [] _ s kk rfl (RepL.nil (r := rp_T_api_Pair)) rfl (RepL.nil (r := (Rp.slice (Rp.int .u8)))) rfl (RepL.nil (r := (Rp.int .i64))))
  have hf := iteF h4 hf
  refine WPK.condF (Eq.trans (b := .bool (decide ((strOfNums x50.2.1).toList ≠ (strOfNums p1).toList))) (by kernel_rfl) (bo_f h4)) ?_
  refine WPK.skip ?_
  refine WPK.seq ?_
  refine WPK.region ?_
  refine RW.seg hT 1 [.agg #[.bool (decide (p0 = 3)), .slice A9 x8.length u9, .slice A10 x9.length u10, .slice A11 x10.length u11]] [] [.agg #[.bool (decide (p0 = 3)), .slice A9 x8.length u9, .slice A10 x9.length u10, .slice A11 x10.length u11]] [.cells ⟨b3, 0, none⟩ [.bool (decide (p0 = 3)), .slice A9 x8.length u9, .slice A10 x9.length u10, .slice A11 x10.length u11] 4] (by kernel_rfl) (s.cells (i := 5) rfl rfl rfl) ?_
  refine RW.op (by kernel_rfl) (OK.store hT (i := 6) (b := b1) (off := 0) (n := 4) (vs := [.bool (decide (p0 = 3)), .slice A9 x8.length u9, .slice A10 x9.length u10, .slice A11 x10.length u11]) (cs := [.bool false, .slice none 0 0, .slice none 0 0, .slice none 0 0]) (e := 26) s (by kernel_rfl) rfl rfl (flat_ok rfl) (Nat.le_of_ble_eq_true rfl) ?_)
  clear s
  rintro w53 s k58 -
  replace e1 := e1.st k58
  replace e4 := e4.st k58
  replace rp2 := rp2.st k58
  replace rp3 := rp3.st k58
  replace rp4 := rp4.st k58
  replace rp30 := rp30.st k58
  replace kk := kk.trans k58
  refine RW.seg hT 1 [] [] [.int .i64 0] [] (by kernel_rfl) (trivial) ?_
  refine RW.nil ?_
  refine WPK.ret (?_)
  obtain rfl := someS hf
  refine Fin.of (rs := [.cell 4 26, .tmp 5]) hT [.agg #[.bool (decide (p0 = 3)), .slice A9 x8.length u9, .slice A10 x9.length u10, .slice A11 x10.length u11]] (.tuple #[.agg #[.bool (decide (p0 = 3)), .slice A9 x8.length u9, .slice A10 x9.length u10, .slice A11 x10.length u11], .int .i64 0]) [.cells ⟨b1, 0, none⟩ [.bool (decide (p0 = 3)), .slice A9 x8.length u9, .slice A10 x9.length u10, .slice A11 x10.length u11] 4] rfl (by kernel_rfl) (s.cells (i := 6) rfl rfl rfl) ?_
  replace s := s.pick [0, 1, 2] 7 rfl
  exact fun X h => vc rfl (h I26 A9 x8.length u9 cl5 A10 x9.length u10 cl6 A11 x10.length u11 cl7 _ s kk rfl rp2 rfl rp3 rfl rp4)
  refine WPK.seq ?_
  refine WPK.region ?_
  refine RW.seg hT 3 [.bool (decide (p0 = 3))] [(31, .bool (decide (¬ (p0 = 3))))] [.pointer (some ⟨b3, 0, none⟩), .bool (decide (p0 = 3)), .bool (decide (¬ (p0 = 3)))] [.cell ⟨b3, 0, none⟩ (.bool (decide (p0 = 3))), .veq (.bool (!(decide (p0 = 3)))) (.bool (decide (¬ (p0 = 3))))] (by kernel_rfl) (⟨s.cell (i := 1) (off := 0) rfl rfl, not_v⟩) ?_
  refine RW.nil ?_
  by_cases h5 : ¬ (p0 = 3)
  have hf := iteT h5 hf
  refine WPK.condT (Eq.trans (b := .bool (decide (¬ (p0 = 3)))) (by kernel_rfl) (bo_t h5)) ?_
  have e1S3 := e1
  have e2S3 := e2
  have kS3 : Kp I1 w6 I1 w6 := Kp.refl
  refine WPK.drawM (fun w' => ∃ I' : Nat → Prop, St w1 M I' ((.blk b1 (.cells #[.bool false, .slice none 0 0, .slice none 0 0, .slice none 0 0] 26 (0, 0))) :: F) w' ∧ Kp I1 w6 I' w') 12 [0, 1, 0, 4, 12, 0, 44, 124, 252, 511, 1023, 2047] (by kernel_rfl) (by kernel_rfl) ?_
  intro ht3 w54 hd3
  have k59 := Kp.dr s hd3
  replace s := s.dr hd3
  replace e1 := e1.st k59
  replace e2 := e2.st k59
  replace kk := kk.trans k59
  replace kS3 := kS3.trans k59
  refine RD.segM hT ht3 (by kernel_rfl) [0, 2, 5] [] [] [.pointer (some ⟨b3, 3, none⟩), .pointer (some ⟨b2, 0, none⟩), .pointer (some ⟨b2, 0, none⟩)] [] (by kernel_rfl) (fun _ _ => trivial) ⟨_, s.pick [2] 3 rfl, kS3⟩ ?_
  obtain ⟨x51, hx23, hf⟩ := bindS hf
  refine RD.ways [1, 3] (by kernel_rfl) (List.forall_mem_cons.2 ⟨?_, List.forall_mem_cons.2 ⟨?_, fun _ h => nomatch h⟩⟩)
  refine RWay.op rfl (by kernel_rfl) (OK.pure hT (ld := (.slice none 0 0)) (v := .slice none 0 0) (c := .cell ⟨b3, 3, none⟩ (.slice none 0 0)) (by kernel_rfl) (s.cell (i := 1) (off := 3) rfl rfl) ?_)
  refine ⟨fun _ => ⟨_, s.pick [2] 3 rfl, kS3⟩, RD.fold ?_⟩
  refine RD.op (i := 3) rfl (by kernel_rfl) (by kernel_rfl) (OK.call' en73 (by kernel_rfl) (c73 (F := (.blk b3 (.cells #[.bool (decide (p0 = 3)), .slice none 0 0, .slice none 0 0, .slice none 0 0] 26 (0, 0))) :: (.blk b1 (.cells #[.bool false, .slice none 0 0, .slice none 0 0, .slice none 0 0] 26 (0, 0))) :: F) x1.2 b2 A5 u5 hc2 e2 s hx23) ?_)
  intro X20 hX20
  refine fun _ _ hJ => hJ X20 ?_
  clear s
  intro I27 A53 u53 w55 s k60 hc37 e37
  refine hX20 _ _ ?_
  replace e1 := e1.st k60
  replace e2 := e2.st k60
  replace kk := kk.trans k60
  replace kS3 := kS3.trans k60
  refine ⟨fun _ => ⟨_, s.pick [2] 3 rfl, kS3⟩, RD.fold ?_⟩
  refine RD.segM hT ht3 (by kernel_rfl) [4] [] [] [.int .i64 (IntKind.i64.wrap (256 * x51.1))] [] (by kernel_rfl) (fun _ _ => trivial) ⟨_, s.pick [2] 3 rfl, kS3⟩ ?_
  obtain ⟨x52, hx24, hf⟩ := bindS hf
  refine RD.op (i := 6) rfl (by kernel_rfl) (by kernel_rfl) (OK.call' en73 (by kernel_rfl) (c73 (F := (.blk b3 (.cells #[.bool (decide (p0 = 3)), .slice none 0 0, .slice none 0 0, .slice none 0 0] 26 (0, 0))) :: (.blk b1 (.cells #[.bool false, .slice none 0 0, .slice none 0 0, .slice none 0 0] 26 (0, 0))) :: F) x51.2 b2 A53 u53 hc37 e37 s hx24) ?_)
  intro X21 hX21
  refine fun _ _ hJ => hJ X21 ?_
  clear s
  intro I28 A54 u54 w56 s k61 hc38 e38
  refine hX21 _ _ ?_
  replace e1 := e1.st k61
  replace e37 := e37.st k61
  replace kk := kk.trans k61
  replace kS3 := kS3.trans k61
  refine ⟨fun _ => ⟨_, s.pick [2] 3 rfl, kS3⟩, RD.fold ?_⟩
  obtain ⟨x53, hx25, hf⟩ := bindS hf
  refine RD.segM hT ht3 (by kernel_rfl) [7] [] [(39, .int .i64 x53)] [.int .i64 x53] [.veq (.int .i64 (IntKind.i64.wrap ((IntKind.i64.wrap (256 * x51.1)) + x52.1))) (.int .i64 x53)] (by kernel_rfl) (by rintro w' ⟨I', s, k⟩; have e1 := e1S3.st k; have e2 := e2S3.st k; exact int_v (someS hx25)) ⟨_, s.pick [2] 3 rfl, kS3⟩ ?_
  refine RD.op (i := 8) rfl (by kernel_rfl) (by kernel_rfl) (OK.new hT (f := fun b => .slice (some ⟨b, 0, none⟩) 1 1) (cs := [.int .i64 x53]) (e := 3) (c := .tt) s (by kernel_rfl) trivial ?_)
  clear s
  rintro w57 b11 s k62 -
  replace e1 := e1.st k62
  replace e38 := e38.st k62
  replace kk := kk.trans k62
  replace kS3 := kS3.trans k62
  have rp31 : RepL (Rp.int .i64) I28 w57 [.int .i64 x53] ([x53] : List Int) := RepL.cons (c := [.int .i64 x53]) (d := []) (rfl) (RepL.nil)
  replace s : St w1 M I28 ((.sl (.slice (some ⟨b11, 0, none⟩) 1 1) 3 1 1 [.int .i64 x53]) :: (.blk b2 (.cells #[.slice A54 x52.2.b.length u54, .int .i64 x52.2.at_] 89 (0, 0))) :: (.blk b3 (.cells #[.bool (decide (p0 = 3)), .slice none 0 0, .slice none 0 0, .slice none 0 0] 26 (0, 0))) :: (.blk b1 (.cells #[.bool false, .slice none 0 0, .slice none 0 0, .slice none 0 0] 26 (0, 0))) :: F) w57 := s.blkSl (i := 0) (n := 1) (c := 1) (size := 1) rfl rfl (Nat.le_refl _) (by decide)
  refine ⟨fun _ => ⟨_, s.pick [3] 4 rfl, kS3⟩, RD.fold ?_⟩
  replace s := s.pushNil 3 1
  have hs10 := St.src s (i := 1) rfl rfl rp31
  have rq10 := rp31
  obtain ⟨x54, hx26, hf⟩ := bindS hf
  refine RD.op (i := 9) rfl (by kernel_rfl) (by kernel_rfl) (OK.app hT (r := (Rp.int .i64)) (i := 0) (t := 24) (e := 3) (size := 1) (bytes := 8) (c := 0) (n := 0) (m := 1) s (by kernel_rfl) rfl rfl rfl rfl rfl (by decide) rfl rfl rfl rfl (RepL.nil (r := (Rp.int .i64))) hs10 rq10 flat_int rfl hx26 ?_)
  clear s
  rintro A55 u55 cl27 w58 s k63 rp32
  replace e1 := e1.st k63
  replace e38 := e38.st k63
  replace rp31 := rp31.st k63
  replace kk := kk.trans k63
  replace kS3 := kS3.trans k63
  refine ⟨fun _ => ⟨_, s.pick [4] 5 rfl, kS3⟩, RD.fold ?_⟩
  refine RD.segM hT ht3 (by kernel_rfl) [10] [] [] [.pointer (some ⟨b3, 3, none⟩)] [] (by kernel_rfl) (fun _ _ => trivial) ⟨_, s.pick [4] 5 rfl, kS3⟩ ?_
  refine RD.op (i := 11) rfl (by kernel_rfl) (by kernel_rfl) (OK.store hT (i := 3) (b := b3) (off := 3) (n := 1) (vs := [.slice A55 x54.length u55]) (cs := [.bool (decide (p0 = 3)), .slice none 0 0, .slice none 0 0, .slice none 0 0]) (e := 26) s (by kernel_rfl) rfl rfl (flat_ok rfl) (Nat.le_of_ble_eq_true rfl) ?_)
  clear s
  rintro w59 s k64 -
  replace e1 := e1.st k64
  replace e38 := e38.st k64
  replace rp32 := rp32.st k64
  replace rp31 := rp31.st k64
  replace kk := kk.trans k64
  replace kS3 := kS3.trans k64
  refine ⟨fun _ => ⟨_, s.pick [4] 5 rfl, kS3⟩, RD.fold ?_⟩
  refine RD.done (by kernel_rfl) ?_
  replace s := s.pick [0, 2, 3, 4] 5 rfl
  exact fun X h => kc (by kernel_rfl) rfl (h I28 x52.2.b x52.2.at_ x54 A54 u54 A55 u55 cl27 _ hf s kk e1 hc38 e38 rp32)
  refine RWay.op rfl (by kernel_rfl) (OK.call' en73 (by kernel_rfl) (c73 (F := (.blk b3 (.cells #[.bool (decide (p0 = 3)), .slice none 0 0, .slice none 0 0, .slice none 0 0] 26 (0, 0))) :: (.blk b1 (.cells #[.bool false, .slice none 0 0, .slice none 0 0, .slice none 0 0] 26 (0, 0))) :: F) x1.2 b2 A5 u5 hc2 e2 s hx23) ?_)
  intro X22 hX22
  refine fun _ _ hJ => hJ X22 ?_
  clear s
  intro I29 A56 u56 w60 s k65 hc39 e39
  refine hX22 _ _ ?_
  replace e1 := e1.st k65
  replace e2 := e2.st k65
  replace kk := kk.trans k65
  replace kS3 := kS3.trans k65
  refine ⟨fun _ => ⟨_, s.pick [2] 3 rfl, kS3⟩, RD.fold ?_⟩
  refine RD.segM hT ht3 (by kernel_rfl) [4] [] [] [.int .i64 (IntKind.i64.wrap (256 * x51.1))] [] (by kernel_rfl) (fun _ _ => trivial) ⟨_, s.pick [2] 3 rfl, kS3⟩ ?_
  obtain ⟨x55, hx27, hf⟩ := bindS hf
  refine RD.ways [1, 6] (by kernel_rfl) (List.forall_mem_cons.2 ⟨?_, List.forall_mem_cons.2 ⟨?_, fun _ h => nomatch h⟩⟩)
  refine RWay.op rfl (by kernel_rfl) (OK.pure hT (ld := (.slice none 0 0)) (v := .slice none 0 0) (c := .cell ⟨b3, 3, none⟩ (.slice none 0 0)) (by kernel_rfl) (s.cell (i := 1) (off := 3) rfl rfl) ?_)
  refine ⟨fun _ => ⟨_, s.pick [2] 3 rfl, kS3⟩, RD.fold ?_⟩
  refine RD.op (i := 6) rfl (by kernel_rfl) (by kernel_rfl) (OK.call' en73 (by kernel_rfl) (c73 (F := (.blk b3 (.cells #[.bool (decide (p0 = 3)), .slice none 0 0, .slice none 0 0, .slice none 0 0] 26 (0, 0))) :: (.blk b1 (.cells #[.bool false, .slice none 0 0, .slice none 0 0, .slice none 0 0] 26 (0, 0))) :: F) x51.2 b2 A56 u56 hc39 e39 s hx27) ?_)
  intro X23 hX23
  refine fun _ _ hJ => hJ X23 ?_
  clear s
  intro I30 A57 u57 w61 s k66 hc40 e40
  refine hX23 _ _ ?_
  replace e1 := e1.st k66
  replace e39 := e39.st k66
  replace kk := kk.trans k66
  replace kS3 := kS3.trans k66
  refine ⟨fun _ => ⟨_, s.pick [2] 3 rfl, kS3⟩, RD.fold ?_⟩
  obtain ⟨x56, hx28, hf⟩ := bindS hf
  refine RD.segM hT ht3 (by kernel_rfl) [7] [] [(39, .int .i64 x56)] [.int .i64 x56] [.veq (.int .i64 (IntKind.i64.wrap ((IntKind.i64.wrap (256 * x51.1)) + x55.1))) (.int .i64 x56)] (by kernel_rfl) (by rintro w' ⟨I', s, k⟩; have e1 := e1S3.st k; have e2 := e2S3.st k; exact int_v (someS hx28)) ⟨_, s.pick [2] 3 rfl, kS3⟩ ?_
  refine RD.op (i := 8) rfl (by kernel_rfl) (by kernel_rfl) (OK.new hT (f := fun b => .slice (some ⟨b, 0, none⟩) 1 1) (cs := [.int .i64 x56]) (e := 3) (c := .tt) s (by kernel_rfl) trivial ?_)
  clear s
  rintro w62 b12 s k67 -
  replace e1 := e1.st k67
  replace e40 := e40.st k67
  replace kk := kk.trans k67
  replace kS3 := kS3.trans k67
  have rp33 : RepL (Rp.int .i64) I30 w62 [.int .i64 x56] ([x56] : List Int) := RepL.cons (c := [.int .i64 x56]) (d := []) (rfl) (RepL.nil)
  replace s : St w1 M I30 ((.sl (.slice (some ⟨b12, 0, none⟩) 1 1) 3 1 1 [.int .i64 x56]) :: (.blk b2 (.cells #[.slice A57 x55.2.b.length u57, .int .i64 x55.2.at_] 89 (0, 0))) :: (.blk b3 (.cells #[.bool (decide (p0 = 3)), .slice none 0 0, .slice none 0 0, .slice none 0 0] 26 (0, 0))) :: (.blk b1 (.cells #[.bool false, .slice none 0 0, .slice none 0 0, .slice none 0 0] 26 (0, 0))) :: F) w62 := s.blkSl (i := 0) (n := 1) (c := 1) (size := 1) rfl rfl (Nat.le_refl _) (by decide)
  refine ⟨fun _ => ⟨_, s.pick [3] 4 rfl, kS3⟩, RD.fold ?_⟩
  replace s := s.pushNil 3 1
  have hs11 := St.src s (i := 1) rfl rfl rp33
  have rq11 := rp33
  obtain ⟨x57, hx29, hf⟩ := bindS hf
  refine RD.op (i := 9) rfl (by kernel_rfl) (by kernel_rfl) (OK.app hT (r := (Rp.int .i64)) (i := 0) (t := 24) (e := 3) (size := 1) (bytes := 8) (c := 0) (n := 0) (m := 1) s (by kernel_rfl) rfl rfl rfl rfl rfl (by decide) rfl rfl rfl rfl (RepL.nil (r := (Rp.int .i64))) hs11 rq11 flat_int rfl hx29 ?_)
  clear s
  rintro A58 u58 cl28 w63 s k68 rp34
  replace e1 := e1.st k68
  replace e40 := e40.st k68
  replace rp33 := rp33.st k68
  replace kk := kk.trans k68
  replace kS3 := kS3.trans k68
  refine ⟨fun _ => ⟨_, s.pick [4] 5 rfl, kS3⟩, RD.fold ?_⟩
  refine RD.segM hT ht3 (by kernel_rfl) [10] [] [] [.pointer (some ⟨b3, 3, none⟩)] [] (by kernel_rfl) (fun _ _ => trivial) ⟨_, s.pick [4] 5 rfl, kS3⟩ ?_
  refine RD.op (i := 11) rfl (by kernel_rfl) (by kernel_rfl) (OK.store hT (i := 3) (b := b3) (off := 3) (n := 1) (vs := [.slice A58 x57.length u58]) (cs := [.bool (decide (p0 = 3)), .slice none 0 0, .slice none 0 0, .slice none 0 0]) (e := 26) s (by kernel_rfl) rfl rfl (flat_ok rfl) (Nat.le_of_ble_eq_true rfl) ?_)
  clear s
  rintro w64 s k69 -
  replace e1 := e1.st k69
  replace e40 := e40.st k69
  replace rp34 := rp34.st k69
  replace rp33 := rp33.st k69
  replace kk := kk.trans k69
  replace kS3 := kS3.trans k69
  refine ⟨fun _ => ⟨_, s.pick [4] 5 rfl, kS3⟩, RD.fold ?_⟩
  refine RD.done (by kernel_rfl) ?_
  replace s := s.pick [0, 2, 3, 4] 5 rfl
  exact fun X h => kc (by kernel_rfl) rfl (h I30 x55.2.b x55.2.at_ x57 A57 u57 A58 u58 cl28 _ hf s kk e1 hc40 e40 rp34)
  refine RWay.op rfl (by kernel_rfl) (OK.call' en73 (by kernel_rfl) (c73 (F := (.blk b3 (.cells #[.bool (decide (p0 = 3)), .slice none 0 0, .slice none 0 0, .slice none 0 0] 26 (0, 0))) :: (.blk b1 (.cells #[.bool false, .slice none 0 0, .slice none 0 0, .slice none 0 0] 26 (0, 0))) :: F) x51.2 b2 A56 u56 hc39 e39 s hx27) ?_)
  intro X24 hX24
  refine fun _ _ hJ => hJ X24 ?_
  clear s
  intro I31 A59 u59 w65 s k70 hc41 e41
  refine hX24 _ _ ?_
  replace e1 := e1.st k70
  replace e39 := e39.st k70
  replace kk := kk.trans k70
  replace kS3 := kS3.trans k70
  refine ⟨fun _ => ⟨_, s.pick [2] 3 rfl, kS3⟩, RD.fold ?_⟩
  obtain ⟨x58, hx30, hf⟩ := bindS hf
  refine RD.segM hT ht3 (by kernel_rfl) [7] [] [(39, .int .i64 x58)] [.int .i64 x58] [.veq (.int .i64 (IntKind.i64.wrap ((IntKind.i64.wrap (256 * x51.1)) + x55.1))) (.int .i64 x58)] (by kernel_rfl) (by rintro w' ⟨I', s, k⟩; have e1 := e1S3.st k; have e2 := e2S3.st k; exact int_v (someS hx30)) ⟨_, s.pick [2] 3 rfl, kS3⟩ ?_
  refine RD.ways [1, 8] (by kernel_rfl) (List.forall_mem_cons.2 ⟨?_, List.forall_mem_cons.2 ⟨?_, fun _ h => nomatch h⟩⟩)
  refine RWay.op rfl (by kernel_rfl) (OK.pure hT (ld := (.slice none 0 0)) (v := .slice none 0 0) (c := .cell ⟨b3, 3, none⟩ (.slice none 0 0)) (by kernel_rfl) (s.cell (i := 1) (off := 3) rfl rfl) ?_)
  refine ⟨fun _ => ⟨_, s.pick [2] 3 rfl, kS3⟩, RD.fold ?_⟩
  refine RD.op (i := 8) rfl (by kernel_rfl) (by kernel_rfl) (OK.new hT (f := fun b => .slice (some ⟨b, 0, none⟩) 1 1) (cs := [.int .i64 x58]) (e := 3) (c := .tt) s (by kernel_rfl) trivial ?_)
  clear s
  rintro w66 b13 s k71 -
  replace e1 := e1.st k71
  replace e41 := e41.st k71
  replace kk := kk.trans k71
  replace kS3 := kS3.trans k71
  have rp35 : RepL (Rp.int .i64) I31 w66 [.int .i64 x58] ([x58] : List Int) := RepL.cons (c := [.int .i64 x58]) (d := []) (rfl) (RepL.nil)
  replace s : St w1 M I31 ((.sl (.slice (some ⟨b13, 0, none⟩) 1 1) 3 1 1 [.int .i64 x58]) :: (.blk b2 (.cells #[.slice A59 x55.2.b.length u59, .int .i64 x55.2.at_] 89 (0, 0))) :: (.blk b3 (.cells #[.bool (decide (p0 = 3)), .slice none 0 0, .slice none 0 0, .slice none 0 0] 26 (0, 0))) :: (.blk b1 (.cells #[.bool false, .slice none 0 0, .slice none 0 0, .slice none 0 0] 26 (0, 0))) :: F) w66 := s.blkSl (i := 0) (n := 1) (c := 1) (size := 1) rfl rfl (Nat.le_refl _) (by decide)
  refine ⟨fun _ => ⟨_, s.pick [3] 4 rfl, kS3⟩, RD.fold ?_⟩
  replace s := s.pushNil 3 1
  have hs12 := St.src s (i := 1) rfl rfl rp35
  have rq12 := rp35
  obtain ⟨x59, hx31, hf⟩ := bindS hf
  refine RD.op (i := 9) rfl (by kernel_rfl) (by kernel_rfl) (OK.app hT (r := (Rp.int .i64)) (i := 0) (t := 24) (e := 3) (size := 1) (bytes := 8) (c := 0) (n := 0) (m := 1) s (by kernel_rfl) rfl rfl rfl rfl rfl (by decide) rfl rfl rfl rfl (RepL.nil (r := (Rp.int .i64))) hs12 rq12 flat_int rfl hx31 ?_)
  clear s
  rintro A60 u60 cl29 w67 s k72 rp36
  replace e1 := e1.st k72
  replace e41 := e41.st k72
  replace rp35 := rp35.st k72
  replace kk := kk.trans k72
  replace kS3 := kS3.trans k72
  refine ⟨fun _ => ⟨_, s.pick [4] 5 rfl, kS3⟩, RD.fold ?_⟩
  refine RD.segM hT ht3 (by kernel_rfl) [10] [] [] [.pointer (some ⟨b3, 3, none⟩)] [] (by kernel_rfl) (fun _ _ => trivial) ⟨_, s.pick [4] 5 rfl, kS3⟩ ?_
  refine RD.op (i := 11) rfl (by kernel_rfl) (by kernel_rfl) (OK.store hT (i := 3) (b := b3) (off := 3) (n := 1) (vs := [.slice A60 x59.length u60]) (cs := [.bool (decide (p0 = 3)), .slice none 0 0, .slice none 0 0, .slice none 0 0]) (e := 26) s (by kernel_rfl) rfl rfl (flat_ok rfl) (Nat.le_of_ble_eq_true rfl) ?_)
  clear s
  rintro w68 s k73 -
  replace e1 := e1.st k73
  replace e41 := e41.st k73
  replace rp36 := rp36.st k73
  replace rp35 := rp35.st k73
  replace kk := kk.trans k73
  replace kS3 := kS3.trans k73
  refine ⟨fun _ => ⟨_, s.pick [4] 5 rfl, kS3⟩, RD.fold ?_⟩
  refine RD.done (by kernel_rfl) ?_
  replace s := s.pick [0, 2, 3, 4] 5 rfl
  exact fun X h => kc (by kernel_rfl) rfl (h I31 x55.2.b x55.2.at_ x59 A59 u59 A60 u60 cl29 _ hf s kk e1 hc41 e41 rp36)
  refine RWay.op rfl (by kernel_rfl) (OK.new hT (f := fun b => .slice (some ⟨b, 0, none⟩) 1 1) (cs := [.int .i64 x58]) (e := 3) (c := .tt) s (by kernel_rfl) trivial ?_)
  clear s
  rintro w66 b13 s k71 -
  replace e1 := e1.st k71
  replace e41 := e41.st k71
  replace kk := kk.trans k71
  replace kS3 := kS3.trans k71
  have rp35 : RepL (Rp.int .i64) I31 w66 [.int .i64 x58] ([x58] : List Int) := RepL.cons (c := [.int .i64 x58]) (d := []) (rfl) (RepL.nil)
  replace s : St w1 M I31 ((.sl (.slice (some ⟨b13, 0, none⟩) 1 1) 3 1 1 [.int .i64 x58]) :: (.blk b2 (.cells #[.slice A59 x55.2.b.length u59, .int .i64 x55.2.at_] 89 (0, 0))) :: (.blk b3 (.cells #[.bool (decide (p0 = 3)), .slice none 0 0, .slice none 0 0, .slice none 0 0] 26 (0, 0))) :: (.blk b1 (.cells #[.bool false, .slice none 0 0, .slice none 0 0, .slice none 0 0] 26 (0, 0))) :: F) w66 := s.blkSl (i := 0) (n := 1) (c := 1) (size := 1) rfl rfl (Nat.le_refl _) (by decide)
  refine ⟨fun _ => ⟨_, s.pick [3] 4 rfl, kS3⟩, RD.fold ?_⟩
  refine RD.op (i := 1) rfl (by kernel_rfl) (by kernel_rfl) (OK.pure hT (ld := (.slice none 0 0)) (v := .slice none 0 0) (c := .cell ⟨b3, 3, none⟩ (.slice none 0 0)) (by kernel_rfl) (s.cell (i := 2) (off := 3) rfl rfl) ?_)
  refine ⟨fun _ => ⟨_, s.pick [3] 4 rfl, kS3⟩, RD.fold ?_⟩
  replace s := s.pushNil 3 1
  have hs13 := St.src s (i := 1) rfl rfl rp35
  have rq13 := rp35
  obtain ⟨x60, hx32, hf⟩ := bindS hf
  refine RD.op (i := 9) rfl (by kernel_rfl) (by kernel_rfl) (OK.app hT (r := (Rp.int .i64)) (i := 0) (t := 24) (e := 3) (size := 1) (bytes := 8) (c := 0) (n := 0) (m := 1) s (by kernel_rfl) rfl rfl rfl rfl rfl (by decide) rfl rfl rfl rfl (RepL.nil (r := (Rp.int .i64))) hs13 rq13 flat_int rfl hx32 ?_)
  clear s
  rintro A61 u61 cl30 w69 s k74 rp37
  replace e1 := e1.st k74
  replace e41 := e41.st k74
  replace rp35 := rp35.st k74
  replace kk := kk.trans k74
  replace kS3 := kS3.trans k74
  refine ⟨fun _ => ⟨_, s.pick [4] 5 rfl, kS3⟩, RD.fold ?_⟩
  refine RD.segM hT ht3 (by kernel_rfl) [10] [] [] [.pointer (some ⟨b3, 3, none⟩)] [] (by kernel_rfl) (fun _ _ => trivial) ⟨_, s.pick [4] 5 rfl, kS3⟩ ?_
  refine RD.op (i := 11) rfl (by kernel_rfl) (by kernel_rfl) (OK.store hT (i := 3) (b := b3) (off := 3) (n := 1) (vs := [.slice A61 x60.length u61]) (cs := [.bool (decide (p0 = 3)), .slice none 0 0, .slice none 0 0, .slice none 0 0]) (e := 26) s (by kernel_rfl) rfl rfl (flat_ok rfl) (Nat.le_of_ble_eq_true rfl) ?_)
  clear s
  rintro w70 s k75 -
  replace e1 := e1.st k75
  replace e41 := e41.st k75
  replace rp37 := rp37.st k75
  replace rp35 := rp35.st k75
  replace kk := kk.trans k75
  replace kS3 := kS3.trans k75
  refine ⟨fun _ => ⟨_, s.pick [4] 5 rfl, kS3⟩, RD.fold ?_⟩
  refine RD.done (by kernel_rfl) ?_
  replace s := s.pick [0, 2, 3, 4] 5 rfl
  exact fun X h => kc (by kernel_rfl) rfl (h I31 x55.2.b x55.2.at_ x60 A59 u59 A61 u61 cl30 _ hf s kk e1 hc41 e41 rp37)
  have hf := iteF h5 hf
  refine WPK.condF (Eq.trans (b := .bool (decide (¬ (p0 = 3)))) (by kernel_rfl) (bo_f h5)) ?_
  refine WPK.skip ?_
  replace s := s.pushNil 3 1
  exact fun X h => kc (by kernel_rfl) rfl (h I1 x1.2.b x1.2.at_ ([] : List Int) A5 u5 none 0 [] _ hf s kk e1 hc2 e2 (RepL.nil (r := (Rp.int .i64))))
  refine WPK.seq ?_
  refine WPK.region ?_
  refine RW.seg hT 2 [] [(15, .bool (decide (p0 ≠ 3)))] [.int .i64 p0, .bool (decide (p0 ≠ 3))] [.veq (.bool (p0 != 3)) (.bool (decide (p0 ≠ 3)))] (by kernel_rfl) (ne_v) ?_
  by_cases h6 : p0 ≠ 3
  have hf := iteT h6 hf
  refine RW.seg hT 4 [] [(16, .bool true), (18, .bool (decide (p0 ≠ 4)))] [.bool true, .int .i64 p0, .bool (decide (p0 ≠ 4)), .bool (decide (p0 ≠ 4))] [.veq (.bool (decide (p0 ≠ 3))) (.bool true), .veq (.bool (p0 != 4)) (.bool (decide (p0 ≠ 4)))] (by kernel_rfl) (⟨bo_t h6, ne_v⟩) ?_
  refine RW.nil ?_
  by_cases h7 : p0 ≠ 4
  have hf := iteT h7 hf
  refine WPK.condT (Eq.trans (b := .bool (decide (p0 ≠ 4))) (by kernel_rfl) (bo_t h7)) ?_
  refine WPK.seq ?_
  refine WPK.region ?_
  refine RW.seg hT 1 [] [] [.agg #[.bool false, .slice none 0 0, .slice none 0 0, .slice none 0 0]] [] (by kernel_rfl) (trivial) ?_
  refine RW.op (by kernel_rfl) (OK.store hT (i := 0) (b := b1) (off := 0) (n := 4) (vs := [.bool false, .slice none 0 0, .slice none 0 0, .slice none 0 0]) (cs := [.bool false, .slice none 0 0, .slice none 0 0, .slice none 0 0]) (e := 26) s (by kernel_rfl) rfl rfl (flat_ok rfl) (Nat.le_of_ble_eq_true rfl) ?_)
  clear s
  rintro w71 s k76 -
  replace e1 := e1.st k76
  replace kk := kk.trans k76
  refine RW.seg hT 1 [] [] [.int .i64 42] [] (by kernel_rfl) (trivial) ?_
  refine RW.nil ?_
  refine WPK.ret (?_)
  obtain rfl := someS hf
  refine Fin.of (rs := [.cell 4 26, .tmp 5]) hT [.agg #[.bool false, .slice none 0 0, .slice none 0 0, .slice none 0 0]] (.tuple #[.agg #[.bool false, .slice none 0 0, .slice none 0 0, .slice none 0 0], .int .i64 42]) [.cells ⟨b1, 0, none⟩ [.bool false, .slice none 0 0, .slice none 0 0, .slice none 0 0] 4] rfl (by kernel_rfl) (s.cells (i := 0) rfl rfl rfl) ?_
  replace s := s.pushNil 48 2
  replace s := s.pushNil 27 1
  replace s := s.pushNil 3 1
  replace s := s.pick [2, 1, 0] 4 rfl
  exact fun X h => vc rfl (h I none 0 0 [] none 0 0 [] none 0 0 [] _ s kk rfl (RepL.nil (r := rp_T_api_Pair)) rfl (RepL.nil (r := (Rp.slice (Rp.int .u8)))) rfl (RepL.nil (r := (Rp.int .i64))))
  have hf := iteF h7 hf
  refine WPK.condF (Eq.trans (b := .bool (decide (p0 ≠ 4))) (by kernel_rfl) (bo_f h7)) ?_
  refine WPK.skip ?_
  exact fun X h => kc (by kernel_rfl) rfl (h hf)
  have hf := iteF h6 hf
  refine RW.seg hT 4 [] [(16, .bool false)] [.bool false, undef, undef, .bool false] [.veq (.bool (decide (p0 ≠ 3))) (.bool false)] (by kernel_rfl) (bo_f h6) ?_
  refine RW.nil ?_
  refine WPK.condF (by kernel_rfl) ?_
  refine WPK.skip ?_
  exact fun X h => kc (by kernel_rfl) rfl (h hf)
end Go.Proofs.Ytefjbhogpgihaaa
