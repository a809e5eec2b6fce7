/- PRINTED BY sy.py: each call computes what the plain function of its number tells. -/
import Derived.Test.YtefjbhogpgihaaaW3
namespace Go.Proofs.Ytefjbhogpgihaaa
open Go Go.SX Go.RowKit
set_option maxRecDepth 100000
set_option linter.unusedVariables false
attribute [local irreducible] WPK RW RD Ret SX.Fin SX.Any opK RoundBeg RoundEnd RangeEnd Rounds
theorem c115_1 {w1 w : World} {M I : Nat → Prop} {F : List It} (p0 : T_pack_Reader) (p1 : Int) (b1 : Nat) (A1 : Option Addr) (u1 : Nat) (hc1 : (p0.b.length ≤ u1 ∧ u1 ≤ 9223372036854775807)) (e1 : Elems (Rp.int .u8) I w A1 p0.b) (s : St w1 M I ((.blk b1 (.cells #[.slice A1 p0.b.length u1, .int .i64 p0.err, .bool p0.made] 118 (0, 0))) :: F) w) {r : ((List Int) × T_pack_Reader)} (hf : g115_1 p0 p1 = some r) :
    Ret Try.prog 115 [.pointer (some ⟨b1, 0, none⟩), .int .i64 p1] w fun v wz => ∀ X : Value → World → Prop, (∀ (I' : Nat → Prop) (A2 : Option Addr) (u2 : Nat) (A3 : Option Addr) (u3 : Nat) (w' : World), St w1 M I' ((.blk b1 (.cells #[.slice A3 r.2.b.length u3, .int .i64 r.2.err, .bool r.2.made] 118 (0, 0))) :: F) w' → Kp I w I' w' → (r.1.length ≤ u2 ∧ u2 ≤ 9223372036854775807) → Elems (Rp.int .u8) I' w' A2 r.1 → (r.2.b.length ≤ u3 ∧ u3 ≤ 9223372036854775807) → Elems (Rp.int .u8) I' w' A3 r.2.b → X (.slice A2 r.1.length u2) w') → X v wz := by
  have kk : Kp I w I w := Kp.refl
  unfold g115_1 at hf
  refine Ret.of Try.func115 rfl ?_
  refine WPK.seq ?_
  refine WPK.region ?_
  refine RW.seg hT 1 [] [] [.slice none 0 0] [] (by kernel_rfl) (trivial) ?_
  refine RW.nil ?_
  refine WPK.seq ?_
  refine WPK.seq ?_
  refine WPK.region ?_
  refine RW.seg hT 1 [] [] [.pointer (some ⟨b1, 0, none⟩)] [] (by kernel_rfl) (trivial) ?_
  obtain ⟨x1, hx1, hf⟩ := bindS hf
  refine RW.op (by kernel_rfl) (OK.call' en113 (by kernel_rfl) (c113_1 (F := F) p0 b1 A1 u1 hc1 e1 s hx1) ?_)
  intro X1 hX1
  refine fun _ _ hJ => hJ X1 ?_
  clear s
  intro I1 w2 s k1
  refine hX1 _ _ ?_
  replace e1 := e1.st k1
  replace kk := kk.trans k1
  refine RW.nil ?_
  by_cases h1 : x1 = true
  have hf := iteT h1 hf
  refine WPK.condT (Eq.trans (b := .bool x1) (by kernel_rfl) (b_t h1)) ?_
  refine WPK.seq ?_
  refine WPK.region ?_
  refine RW.seg hT 1 [] [] [.slice none 0 0] [] (by kernel_rfl) (trivial) ?_
  refine RW.nil ?_
  refine WPK.ret (?_)
  obtain rfl := someS hf
  refine Fin.of (rs := [.tmp 4]) hT [] (.slice none 0 0) [] rfl (by kernel_rfl) (trivial) ?_
  exact fun X h => vc rfl (h I1 none 0 A1 u1 _ s kk nil_hc Elems.nil hc1 e1)
  have hf := iteF h1 hf
  refine WPK.condF (Eq.trans (b := .bool x1) (by kernel_rfl) (b_f h1)) ?_
  refine WPK.skip ?_
  refine WPK.seq ?_
  refine WPK.seq ?_
  refine WPK.region ?_
  refine RW.seg hT 7 [.slice A1 p0.b.length u1] [] [.int .i64 p1, .pointer (some ⟨b1, 0, none⟩), .pointer (some ⟨b1, 0, none⟩), .pointer (some ⟨b1, 0, none⟩), .slice A1 p0.b.length u1, .int .i64 (p0.b.length : Int), .bool (decide (p1 > (p0.b.length : Int)))] [.cell ⟨b1, 0, none⟩ (.slice A1 p0.b.length u1)] (by kernel_rfl) (s.cell (i := 0) (off := 0) rfl rfl) ?_
  refine RW.nil ?_
  by_cases h2 : p1 > (p0.b.length : Int)
  have hf := iteT h2 hf
  refine WPK.condT (Eq.trans (b := .bool (decide (p1 > (p0.b.length : Int)))) (by kernel_rfl) (bo_t h2)) ?_
  refine WPK.seq ?_
  refine WPK.region ?_
  refine RW.seg hT 1 [] [] [.pointer (some ⟨b1, 0, none⟩)] [] (by kernel_rfl) (trivial) ?_
  obtain ⟨x2, hx2, hf⟩ := bindS hf
  refine RW.op (by kernel_rfl) (OK.call' en114 (by kernel_rfl) (c114_1 (F := F) p0 10 b1 A1 u1 hc1 e1 s hx2) ?_)
  intro X2 hX2
  refine fun _ _ hJ => hJ X2 ?_
  clear s
  intro I2 A4 u4 w3 s k2 hc2 e2
  refine hX2 _ _ ?_
  replace e1 := e1.st k2
  replace kk := kk.trans k2
  refine RW.nil ?_
  refine WPK.seq ?_
  refine WPK.region ?_
  refine RW.seg hT 1 [] [] [.slice none 0 0] [] (by kernel_rfl) (trivial) ?_
  refine RW.nil ?_
  refine WPK.ret (?_)
  obtain rfl := someS hf
  refine Fin.of (rs := [.tmp 4]) hT [] (.slice none 0 0) [] rfl (by kernel_rfl) (trivial) ?_
  exact fun X h => vc rfl (h I2 none 0 A4 u4 _ s kk nil_hc Elems.nil hc2 e2)
  have hf := iteF h2 hf
  refine WPK.condF (Eq.trans (b := .bool (decide (p1 > (p0.b.length : Int)))) (by kernel_rfl) (bo_f h2)) ?_
  refine WPK.skip ?_
  refine WPK.seq ?_
  refine WPK.region ?_
  obtain ⟨h3, hf⟩ := iteS hf
  obtain ⟨y1, hy1, hf⟩ := bindS hf
  obtain ⟨u5, h4, hc3, e3, q1, q2⟩ := slS0m hc1 e1 hy1 h3
  refine RW.seg hT 8 [.slice A1 p0.b.length u1] [(23, .slice A1 y1.length u5)] [.pointer (some ⟨b1, 0, none⟩), .pointer (some ⟨b1, 0, none⟩), .pointer (some ⟨b1, 0, none⟩), .slice A1 p0.b.length u1, .int .i64 p1, .int .i64 p1, .slice A1 y1.length u5, .slice A1 y1.length u5] [.cell ⟨b1, 0, none⟩ (.slice A1 p0.b.length u1), .both (.cut 0 p1 p1 u1) (.veq (.slice A1 p1.toNat p1.toNat) (.slice A1 y1.length u5))] (by kernel_rfl) (⟨s.cell (i := 0) (off := 0) rfl rfl, ⟨⟨Int.le_refl _, h4⟩, sl_eq rfl q1 q2⟩⟩) ?_
  refine RW.nil ?_
  refine WPK.seq ?_
  refine WPK.region ?_
  obtain ⟨y2, hy2, hf⟩ := bindS hf
  obtain ⟨A5, u6, h5, hc4, e4, q3, q4, q5⟩ := slS (size := 1) rfl hc1 e1 hy2
  refine RW.seg hT 9 [.slice A1 p0.b.length u1] [(30, .slice A5 y2.length u6)] [.pointer (some ⟨b1, 0, none⟩), .pointer (some ⟨b1, 0, none⟩), .pointer (some ⟨b1, 0, none⟩), .pointer (some ⟨b1, 0, none⟩), .slice A1 p0.b.length u1, .int .i64 p1, .slice A5 y2.length u6, .pointer (some ⟨b1, 0, none⟩), .pointer (some ⟨b1, 0, none⟩)] [.cell ⟨b1, 0, none⟩ (.slice A1 p0.b.length u1), .both (.cut p1 (p0.b.length : Int) u1 u1) (.veq (.slice (cutA A1 p1.toNat u1 1) (p0.b.length - p1.toNat) (u1 - p1.toNat)) (.slice A5 y2.length u6))] (by kernel_rfl) (⟨s.cell (i := 0) (off := 0) rfl rfl, ⟨⟨by omega, by omega, by omega, by omega⟩, sl_eq q3 q4 q5⟩⟩) ?_
  refine RW.op (by kernel_rfl) (OK.store hT (i := 0) (b := b1) (off := 0) (n := 1) (vs := [.slice A5 y2.length u6]) (cs := [.slice A1 p0.b.length u1, .int .i64 p0.err, .bool p0.made]) (e := 118) s (by kernel_rfl) rfl rfl (flat_ok rfl) (Nat.le_of_ble_eq_true rfl) ?_)
  clear s
  rintro w4 s k3 -
  replace e3 := e3.st k3
  replace e1 := e1.st k3
  replace e4 := e4.st k3
  replace kk := kk.trans k3
  refine RW.nil ?_
  refine WPK.seq ?_
  refine WPK.region ?_
  refine RW.seg hT 2 [] [] [.slice A1 y1.length u5, .slice A1 y1.length u5] [] (by kernel_rfl) (trivial) ?_
  refine RW.nil ?_
  refine WPK.ret (?_)
  obtain rfl := someS hf
  refine Fin.of (rs := [.tmp 4]) hT [] (.slice A1 y1.length u5) [] rfl (by kernel_rfl) (trivial) ?_
  exact fun X h => vc rfl (h I1 A1 u5 A5 u6 _ s kk hc3 e3 hc4 e4)
theorem c100 {w1 w : World} {M I : Nat → Prop} {F : List It} (p0 : T_pack_Reader) (p1 : Int) (b1 : Nat) (A1 : Option Addr) (u1 : Nat) (hc1 : (p0.b.length ≤ u1 ∧ u1 ≤ 9223372036854775807)) (e1 : Elems (Rp.int .u8) I w A1 p0.b) (s : St w1 M I ((.blk b1 (.cells #[.slice A1 p0.b.length u1, .int .i64 p0.err, .bool p0.made] 118 (0, 0))) :: F) w) {r : ((List Int) × T_pack_Reader)} (hf : g100 p0 p1 = some r) :
    Ret Try.prog 100 [.pointer (some ⟨b1, 0, none⟩), .int .i64 p1] w fun v wz => ∀ X : Value → World → Prop, (∀ (I' : Nat → Prop) (A2 : Option Addr) (u2 : Nat) (A3 : Option Addr) (u3 : Nat) (w' : World), St w1 M I' ((.blk b1 (.cells #[.slice A3 r.2.b.length u3, .int .i64 r.2.err, .bool r.2.made] 118 (0, 0))) :: F) w' → Kp I w I' w' → (r.1.length ≤ u2 ∧ u2 ≤ 9223372036854775807) → Elems (Rp.int .u8) I' w' A2 r.1 → (r.2.b.length ≤ u3 ∧ u3 ≤ 9223372036854775807) → Elems (Rp.int .u8) I' w' A3 r.2.b → X (.slice A2 r.1.length u2) w') → X v wz := by
  have kk : Kp I w I w := Kp.refl
  unfold g100 at hf
  refine Ret.of Try.func100 rfl ?_
  refine WPK.seq ?_
  refine WPK.region ?_
  refine RW.seg hT 1 [] [] [.slice none 0 0] [] (by kernel_rfl) (trivial) ?_
  refine RW.nil ?_
  refine WPK.seq ?_
  refine WPK.seq ?_
  refine WPK.region ?_
  refine RW.seg hT 1 [] [] [.pointer (some ⟨b1, 0, none⟩)] [] (by kernel_rfl) (trivial) ?_
  obtain ⟨x1, hx1, hf⟩ := bindS hf
  refine RW.op (by kernel_rfl) (OK.call' en113 (by kernel_rfl) (c113_1 (F := F) p0 b1 A1 u1 hc1 e1 s hx1) ?_)
  intro X1 hX1
  refine fun _ _ hJ => hJ X1 ?_
  clear s
  intro I1 w2 s k1
  refine hX1 _ _ ?_
  replace e1 := e1.st k1
  replace kk := kk.trans k1
  refine RW.nil ?_
  by_cases h1 : x1 = true
  have hf := iteT h1 hf
  refine WPK.condT (Eq.trans (b := .bool x1) (by kernel_rfl) (b_t h1)) ?_
  refine WPK.seq ?_
  refine WPK.region ?_
  refine RW.seg hT 1 [] [] [.slice none 0 0] [] (by kernel_rfl) (trivial) ?_
  refine RW.nil ?_
  refine WPK.ret (?_)
  obtain rfl := someS hf
  refine Fin.of (rs := [.tmp 4]) hT [] (.slice none 0 0) [] rfl (by kernel_rfl) (trivial) ?_
  exact fun X h => vc rfl (h I1 none 0 A1 u1 _ s kk nil_hc Elems.nil hc1 e1)
  have hf := iteF h1 hf
  refine WPK.condF (Eq.trans (b := .bool x1) (by kernel_rfl) (b_f h1)) ?_
  refine WPK.skip ?_
  refine WPK.seq ?_
  refine WPK.region ?_
  refine RW.seg hT 1 [] [] [.int .i64 0] [] (by kernel_rfl) (trivial) ?_
  refine RW.nil ?_
  refine WPK.seq ?_
  refine WPK.cut' (Kn fun D1 ds wz => ∀ X : Kont, (∀ (I2 : Nat → Prop) (x2 : Int) (w' : World), g100_j1 p0 x2 = some r → St w1 M I2 ((.blk b1 (.cells #[.slice A1 p0.b.length u1, .int .i64 p0.err, .bool p0.made] 118 (0, 0))) :: F) w' → Kp I w I2 w' → Elems (Rp.int .u8) I2 w' A1 p0.b → X [.pointer (some ⟨b1, 0, none⟩), (D1.getD 1 undef), (D1.getD 2 undef), (D1.getD 3 undef), .slice none 0 0, .int .i64 x2, (D1.getD 6 undef), (D1.getD 7 undef), (D1.getD 8 undef), (D1.getD 9 undef), (D1.getD 10 undef), (D1.getD 11 undef), (D1.getD 12 undef), (D1.getD 13 undef), (D1.getD 14 undef), (D1.getD 15 undef), (D1.getD 16 undef), (D1.getD 17 undef), (D1.getD 18 undef), (D1.getD 19 undef), (D1.getD 20 undef), (D1.getD 21 undef), (D1.getD 22 undef), (D1.getD 23 undef), (D1.getD 24 undef), (D1.getD 25 undef), (D1.getD 26 undef), (D1.getD 27 undef), (D1.getD 28 undef), (D1.getD 29 undef), (D1.getD 30 undef), (D1.getD 31 undef), (D1.getD 32 undef), (D1.getD 33 undef), (D1.getD 34 undef), (D1.getD 35 undef), (D1.getD 36 undef), (D1.getD 37 undef), (D1.getD 38 undef), (D1.getD 39 undef), (D1.getD 40 undef), (D1.getD 41 undef), undef, undef, undef, undef, (D1.getD 46 undef), undef, undef, undef, undef, undef, undef, undef, undef, undef, undef, undef] [] w') → X D1 ds wz) ?_ ?_
  intro X2 hX2
  refine fun D1 _ _ hJ => hJ X2 ?_
  clear s
  intro I2 x2 w3 hf s kk e1
  refine hX2 _ _ _ ?_
  unfold g100_j1 at hf
  refine WPK.seq ?_
  refine WPK.seq ?_
  refine WPK.region ?_
  refine RW.seg hT 2 [] [(43, .bool (decide (x2 ≠ 0)))] [.int .i64 x2, .bool (decide (x2 ≠ 0))] [.veq (.bool (x2 != 0)) (.bool (decide (x2 ≠ 0)))] (by kernel_rfl) (ne_v) ?_
  refine RW.nil ?_
  by_cases h2 : x2 ≠ 0
  have hf := iteT h2 hf
  refine WPK.condT (Eq.trans (b := .bool (decide (x2 ≠ 0))) (by kernel_rfl) (bo_t h2)) ?_
  refine WPK.seq ?_
  refine WPK.region ?_
  refine RW.seg hT 2 [] [] [.pointer (some ⟨b1, 0, none⟩), .int .i64 x2] [] (by kernel_rfl) (trivial) ?_
  obtain ⟨x3, hx2, hf⟩ := bindS hf
  refine RW.op (by kernel_rfl) (OK.call' en114 (by kernel_rfl) (c114_1 (F := F) p0 x2 b1 A1 u1 hc1 e1 s hx2) ?_)
  intro X3 hX3
  refine fun _ _ hJ => hJ X3 ?_
  clear s
  intro I3 A4 u4 w4 s k2 hc2 e2
  refine hX3 _ _ ?_
  replace e1 := e1.st k2
  replace kk := kk.trans k2
  refine RW.nil ?_
  refine WPK.seq ?_
  refine WPK.region ?_
  refine RW.seg hT 1 [] [] [.slice none 0 0] [] (by kernel_rfl) (trivial) ?_
  refine RW.nil ?_
  refine WPK.ret (?_)
  obtain rfl := someS hf
  refine Fin.of (rs := [.tmp 4]) hT [] (.slice none 0 0) [] rfl (by kernel_rfl) (trivial) ?_
  exact fun X h => vc rfl (h I3 none 0 A4 u4 _ s kk nil_hc Elems.nil hc2 e2)
  have hf := iteF h2 hf
  refine WPK.condF (Eq.trans (b := .bool (decide (x2 ≠ 0))) (by kernel_rfl) (bo_f h2)) ?_
  refine WPK.skip ?_
  refine WPK.seq ?_
  refine WPK.region ?_
  obtain ⟨x4, hx3, hf⟩ := bindS hf
  obtain ⟨h3, hx3⟩ := getS hx3
  obtain ⟨b2, o1, rfl⟩ := Elems.opn e1 hx3
  obtain ⟨cs1, hr1, ha1⟩ := Elems.get e1 hx3
  obtain rfl : cs1 = [.int .u8 x4] := hr1
  refine RW.seg hT 9 [.slice (some ⟨b2, o1, none⟩) p0.b.length u1, .int .u8 x4, undef] [] [.pointer (some ⟨b1, 0, none⟩), .pointer (some ⟨b1, 0, none⟩), .pointer (some ⟨b1, 0, none⟩), .pointer (some ⟨b1, 0, none⟩), .slice (some ⟨b2, o1, none⟩) p0.b.length u1, .pointer (some ⟨b2, o1 + (0 : Int).toNat * 1, none⟩), .int .u8 x4, .int .i64 (IntKind.i64.wrap x4), .int .i64 (IntKind.i64.wrap (1 + (IntKind.i64.wrap x4)))] [.cell ⟨b1, 0, none⟩ (.slice (some ⟨b2, o1, none⟩) p0.b.length u1), .idx 0 p0.b.length, .cell ⟨b2, o1 + (0 : Int).toNat * 1, none⟩ (.int .u8 x4)] (by kernel_rfl) (⟨s.cell (i := 0) (off := 0) rfl rfl, h3, ha1 0 _ rfl⟩) ?_
  obtain ⟨x5, hx4, hf⟩ := bindS hf
  refine RW.op (by kernel_rfl) (OK.call' en115 (by kernel_rfl) (c115_1 (F := F) p0 (IntKind.i64.wrap (1 + (IntKind.i64.wrap x4))) b1 (some ⟨b2, o1, none⟩) u1 hc1 e1 s hx4) ?_)
  intro X4 hX4
  refine fun _ _ hJ => hJ X4 ?_
  clear s
  intro I4 A5 u5 A6 u6 w5 s k3 hc3 e3 hc4 e4
  refine hX4 _ _ ?_
  replace e1 := e1.st k3
  replace kk := kk.trans k3
  obtain ⟨y1, hy1, hf⟩ := bindS hf
  obtain ⟨A7, u7, h4, hc5, e5, q1, q2, q3⟩ := slS (size := 1) rfl hc3 e3 hy1
  refine RW.seg hT 2 [] [(57, .slice A7 y1.length u7)] [.slice A7 y1.length u7, .slice A7 y1.length u7] [.both (.cut 1 (x5.1.length : Int) u5 u5) (.veq (.slice (cutA A5 (1 : Int).toNat u5 1) (x5.1.length - (1 : Int).toNat) (u5 - (1 : Int).toNat)) (.slice A7 y1.length u7))] (by kernel_rfl) (⟨⟨by omega, by omega, by omega, by omega⟩, sl_eq q1 q2 q3⟩) ?_
  refine RW.nil ?_
  refine WPK.ret (?_)
  obtain rfl := someS hf
  refine Fin.of (rs := [.tmp 4]) hT [] (.slice A7 y1.length u7) [] rfl (by kernel_rfl) (trivial) ?_
  exact fun X h => vc rfl (h I4 A7 u7 A6 u6 _ s kk hc5 e5 hc4 e4)
  refine WPK.block ?_
  refine WPK.seq ?_
  refine WPK.region ?_
  refine RW.seg hT 3 [] [] [.int .i64 p1, .bool (decide (p1 < 0)), .bool (decide (p1 < 0))] [] (by kernel_rfl) (trivial) ?_
  refine RW.nil ?_
  by_cases h5 : p1 < 0
  have hf := iteT h5 hf
  refine WPK.condT (Eq.trans (b := .bool (decide (p1 < 0))) (by kernel_rfl) (bo_t h5)) ?_
  refine WPK.region ?_
  refine RW.seg hT 1 [] [] [.int .i64 1] [] (by kernel_rfl) (trivial) ?_
  refine RW.nil ?_
  exact fun X h => kc (by kernel_rfl) rfl (h I1 1 _ hf s kk e1)
  have hf := iteF h5 hf
  refine WPK.condF (Eq.trans (b := .bool (decide (p1 < 0))) (by kernel_rfl) (bo_f h5)) ?_
  refine WPK.seq ?_
  refine WPK.region ?_
  refine RW.seg hT 7 [.slice A1 p0.b.length u1] [(17, .bool (decide ((p0.b.length : Int) = 0)))] [.pointer (some ⟨b1, 0, none⟩), .pointer (some ⟨b1, 0, none⟩), .pointer (some ⟨b1, 0, none⟩), .slice A1 p0.b.length u1, .int .i64 (p0.b.length : Int), .bool (decide ((p0.b.length : Int) = 0)), .bool (decide ((p0.b.length : Int) = 0))] [.cell ⟨b1, 0, none⟩ (.slice A1 p0.b.length u1), .veq (.bool ((p0.b.length : Int) == 0)) (.bool (decide ((p0.b.length : Int) = 0)))] (by kernel_rfl) (⟨s.cell (i := 0) (off := 0) rfl rfl, eq_v⟩) ?_
  refine RW.nil ?_
  by_cases h6 : (p0.b.length : Int) = 0
  have hf := iteT h6 hf
  refine WPK.condT (Eq.trans (b := .bool (decide ((p0.b.length : Int) = 0))) (by kernel_rfl) (bo_t h6)) ?_
  refine WPK.region ?_
  refine RW.seg hT 1 [] [] [.int .i64 10] [] (by kernel_rfl) (trivial) ?_
  refine RW.nil ?_
  exact fun X h => kc (by kernel_rfl) rfl (h I1 10 _ hf s kk e1)
  have hf := iteF h6 hf
  refine WPK.condF (Eq.trans (b := .bool (decide ((p0.b.length : Int) = 0))) (by kernel_rfl) (bo_f h6)) ?_
  refine WPK.seq ?_
  refine WPK.region ?_
  obtain ⟨x6, hx5, hf⟩ := bindS hf
  obtain ⟨h7, hx5⟩ := getS hx5
  obtain ⟨b3, o2, rfl⟩ := Elems.opn e1 hx5
  obtain ⟨cs2, hr2, ha2⟩ := Elems.get e1 hx5
  obtain rfl : cs2 = [.int .u8 x6] := hr2
  refine RW.seg hT 10 [.slice (some ⟨b3, o2, none⟩) p0.b.length u1, .int .u8 x6, undef] [] [.pointer (some ⟨b1, 0, none⟩), .pointer (some ⟨b1, 0, none⟩), .pointer (some ⟨b1, 0, none⟩), .slice (some ⟨b3, o2, none⟩) p0.b.length u1, .pointer (some ⟨b3, o2 + (0 : Int).toNat * 1, none⟩), .int .u8 x6, .int .i64 (IntKind.i64.wrap x6), .int .i64 p1, .bool (decide ((IntKind.i64.wrap x6) > p1)), .bool (decide ((IntKind.i64.wrap x6) > p1))] [.cell ⟨b1, 0, none⟩ (.slice (some ⟨b3, o2, none⟩) p0.b.length u1), .idx 0 p0.b.length, .cell ⟨b3, o2 + (0 : Int).toNat * 1, none⟩ (.int .u8 x6)] (by kernel_rfl) (⟨s.cell (i := 0) (off := 0) rfl rfl, h7, ha2 0 _ rfl⟩) ?_
  refine RW.nil ?_
  by_cases h8 : (IntKind.i64.wrap x6) > p1
  have hf := iteT h8 hf
  refine WPK.condT (Eq.trans (b := .bool (decide ((IntKind.i64.wrap x6) > p1))) (by kernel_rfl) (bo_t h8)) ?_
  refine WPK.region ?_
  refine RW.seg hT 1 [] [] [.int .i64 3] [] (by kernel_rfl) (trivial) ?_
  refine RW.nil ?_
  exact fun X h => kc (by kernel_rfl) rfl (h I1 3 _ hf s kk e1)
  have hf := iteF h8 hf
  refine WPK.condF (Eq.trans (b := .bool (decide ((IntKind.i64.wrap x6) > p1))) (by kernel_rfl) (bo_f h8)) ?_
  refine WPK.seq ?_
  have e1S1 := e1
  have kS1 : Kp I1 w2 I1 w2 := Kp.refl
  refine WPK.drawM (fun w' => ∃ I' : Nat → Prop, St w1 M I' ((.blk b1 (.cells #[.slice (some ⟨b3, o2, none⟩) p0.b.length u1, .int .i64 p0.err, .bool p0.made] 118 (0, 0))) :: F) w' ∧ Kp I1 w2 I' w') 14 [0, 1, 3, 7, 15, 31, 63, 0, 128, 384, 896, 1920, 4095, 8191] (by kernel_rfl) (by kernel_rfl) ?_
  intro ht1 w6 hd1
  have k4 := Kp.dr s hd1
  replace s := s.dr hd1
  replace e1 := e1.st k4
  replace kk := kk.trans k4
  replace kS1 := kS1.trans k4
  obtain ⟨x7, hx6, hf⟩ := bindS hf
  obtain ⟨h9, hx6⟩ := getS hx6
  obtain ⟨cs3, hr3, ha3, hb1⟩ := Elems.getI e1S1 hx6
  obtain rfl : cs3 = [.int .u8 x7] := hr3
  refine RD.segM hT ht1 (by kernel_rfl) [0, 1, 2, 3, 4, 5, 6, 7, 8, 9, 10, 11, 12, 13] [.slice (some ⟨b3, o2, none⟩) p0.b.length u1, .int .u8 x7, undef, .slice (some ⟨b3, o2, none⟩) p0.b.length u1] [] [.pointer (some ⟨b1, 0, none⟩), .pointer (some ⟨b1, 0, none⟩), .pointer (some ⟨b1, 0, none⟩), .slice (some ⟨b3, o2, none⟩) p0.b.length u1, .pointer (some ⟨b3, o2 + (0 : Int).toNat * 1, none⟩), .int .u8 x7, .int .i64 (IntKind.i64.wrap x7), .pointer (some ⟨b1, 0, none⟩), .pointer (some ⟨b1, 0, none⟩), .pointer (some ⟨b1, 0, none⟩), .slice (some ⟨b3, o2, none⟩) p0.b.length u1, .int .i64 (p0.b.length : Int), .bool (decide ((IntKind.i64.wrap x7) ≥ (p0.b.length : Int))), .bool (decide ((IntKind.i64.wrap x7) ≥ (p0.b.length : Int)))] [.cell ⟨b1, 0, none⟩ (.slice (some ⟨b3, o2, none⟩) p0.b.length u1), .idx 0 p0.b.length, .cell ⟨b3, o2 + (0 : Int).toNat * 1, none⟩ (.int .u8 x7), .cell ⟨b1, 0, none⟩ (.slice (some ⟨b3, o2, none⟩) p0.b.length u1)] (by kernel_rfl) (by rintro w' ⟨I', s, k⟩; have e1 := e1S1.st k; have ha3 := ha3.st k hb1; exact ⟨s.cell (i := 0) (off := 0) rfl rfl, h9, ha3 0 _ rfl, s.cell (i := 0) (off := 0) rfl rfl⟩) ⟨_, s.pick [0] 1 rfl, kS1⟩ ?_
  refine RD.done (by kernel_rfl) ?_
  by_cases h10 : (IntKind.i64.wrap x7) ≥ (p0.b.length : Int)
  have hf := iteT h10 hf
  refine WPK.condT (Eq.trans (b := .bool (decide ((IntKind.i64.wrap x7) ≥ (p0.b.length : Int)))) (by kernel_rfl) (bo_t h10)) ?_
  refine WPK.region ?_
  refine RW.seg hT 1 [] [] [.int .i64 10] [] (by kernel_rfl) (trivial) ?_
  refine RW.nil ?_
  exact fun X h => kc (by kernel_rfl) rfl (h I1 10 _ hf s kk e1)
  have hf := iteF h10 hf
  refine WPK.condF (Eq.trans (b := .bool (decide ((IntKind.i64.wrap x7) ≥ (p0.b.length : Int)))) (by kernel_rfl) (bo_f h10)) ?_
  refine WPK.skip ?_
  exact fun X h => kc (by kernel_rfl) rfl (h I1 0 _ hf s kk e1)
theorem c72 {w1 w : World} {M I : Nat → Prop} {F : List It} (p0 : T_pack_Reader) (b1 : Nat) (A1 : Option Addr) (u1 : Nat) (hc1 : (p0.b.length ≤ u1 ∧ u1 ≤ 9223372036854775807)) (e1 : Elems (Rp.int .u8) I w A1 p0.b) (s : St w1 M I ((.blk b1 (.cells #[.slice A1 p0.b.length u1, .int .i64 p0.err, .bool p0.made] 118 (0, 0))) :: F) w) {r : Int} (hf : g72 p0 = some r) :
    Ret Try.prog 72 [.pointer (some ⟨b1, 0, none⟩)] w fun v wz => ∀ X : Value → World → Prop, (∀ (I' : Nat → Prop) (w' : World), St w1 M I' ((.blk b1 (.cells #[.slice A1 p0.b.length u1, .int .i64 p0.err, .bool p0.made] 118 (0, 0))) :: F) w' → Kp I w I' w' → X (.int .i64 r) w') → X v wz := by
  have kk : Kp I w I w := Kp.refl
  unfold g72 at hf
  refine Ret.of Try.func72 rfl ?_
  refine WPK.seq ?_
  refine WPK.region ?_
  refine RW.seg hT 1 [] [] [.int .i64 0] [] (by kernel_rfl) (trivial) ?_
  refine RW.nil ?_
  refine WPK.seq ?_
  refine WPK.seq ?_
  refine WPK.region ?_
  refine RW.seg hT 9 [.bool p0.made] [(10, .bool (decide (¬ (p0.made = true))))] [.pointer (some ⟨b1, 0, none⟩), .bool false, .bool false, .pointer (some ⟨b1, 0, none⟩), .pointer (some ⟨b1, 0, none⟩), .pointer (some ⟨b1, 2, none⟩), .bool p0.made, .bool (decide (¬ (p0.made = true))), .bool (decide (¬ (p0.made = true)))] [.cell ⟨b1, 2, none⟩ (.bool p0.made), .veq (.bool (!p0.made)) (.bool (decide (¬ (p0.made = true))))] (by kernel_rfl) (⟨s.cell (i := 0) (off := 2) rfl rfl, not_b⟩) ?_
  refine RW.nil ?_
  by_cases h1 : ¬ (p0.made = true)
  have hf := iteT h1 hf
  refine WPK.condT (Eq.trans (b := .bool (decide (¬ (p0.made = true)))) (by kernel_rfl) (bo_t h1)) ?_
  refine WPK.seq ?_
  refine WPK.region ?_
  refine RW.seg hT 1 [] [] [.int .i64 2] [] (by kernel_rfl) (trivial) ?_
  refine RW.nil ?_
  refine WPK.ret (?_)
  obtain rfl := someS hf
  refine Fin.of (rs := [.tmp 2]) hT [] (.int .i64 2) [] rfl (by kernel_rfl) (trivial) ?_
  exact fun X h => vc rfl (h I _ s kk)
  have hf := iteF h1 hf
  refine WPK.condF (Eq.trans (b := .bool (decide (¬ (p0.made = true)))) (by kernel_rfl) (bo_f h1)) ?_
  refine WPK.skip ?_
  refine WPK.seq ?_
  refine WPK.region ?_
  refine RW.seg hT 5 [.int .i64 p0.err] [] [.pointer (some ⟨b1, 0, none⟩), .pointer (some ⟨b1, 0, none⟩), .pointer (some ⟨b1, 1, none⟩), .int .i64 p0.err, .int .i64 p0.err] [.cell ⟨b1, 1, none⟩ (.int .i64 p0.err)] (by kernel_rfl) (s.cell (i := 0) (off := 1) rfl rfl) ?_
  refine RW.nil ?_
  refine WPK.ret (?_)
  obtain rfl := someS hf
  refine Fin.of (rs := [.tmp 2]) hT [] (.int .i64 p0.err) [] rfl (by kernel_rfl) (trivial) ?_
  exact fun X h => vc rfl (h I _ s kk)
theorem c70 {w1 w : World} {M I : Nat → Prop} {F : List It} (p0 : T_pack_Reader) (b1 : Nat) (A1 : Option Addr) (n1 : Nat) (u1 : Nat) (cl1 : List Value) (hn1 : n1 = p0.b.length) (rp1 : RepL (Rp.int .u8) I w cl1 p0.b) (s : St w1 M I ((.blk b1 (.cells #[.slice A1 n1 u1, .int .i64 p0.err, .bool p0.made] 118 (0, 0))) :: (.sl (.slice A1 n1 u1) 5 1 n1 cl1) :: F) w) {r : (T_api_Node × T_pack_Reader)} (hf : g70 p0 = some r) :
    Ret Try.prog 70 [.pointer (some ⟨b1, 0, none⟩)] w fun v wz => ∀ X : Value → World → Prop, (∀ (I' : Nat → Prop) (A2 : Option Addr) (n2 : Nat) (u2 : Nat) (cl2 : List Value) (A3 : Option Addr) (n3 : Nat) (u3 : Nat) (cl3 : List Value) (A4 : Option Addr) (n4 : Nat) (u4 : Nat) (cl4 : List Value) (A5 : Option Addr) (u5 : Nat) (w' : World), St w1 M I' ((.sl (.slice A2 n2 u2) 48 2 n2 cl2) :: (.sl (.slice A3 n3 u3) 27 1 n3 cl3) :: (.sl (.slice A4 n4 u4) 3 1 n4 cl4) :: (.blk b1 (.cells #[.slice A5 r.2.b.length u5, .int .i64 r.2.err, .bool r.2.made] 118 (0, 0))) :: F) w' → Kp I w I' w' → n2 = r.1.Pairs.length → RepL rp_T_api_Pair I' w' cl2 r.1.Pairs → n3 = r.1.Keys.length → RepL (Rp.slice (Rp.int .u8)) I' w' cl3 r.1.Keys → n4 = r.1.Kids.length → RepL (Rp.int .i64) I' w' cl4 r.1.Kids → (r.2.b.length ≤ u5 ∧ u5 ≤ 9223372036854775807) → Elems (Rp.int .u8) I' w' A5 r.2.b → X (.agg #[.bool r.1.Leaf, .slice A2 n2 u2, .slice A3 n3 u3, .slice A4 n4 u4]) w') → X v wz := by
  have kk : Kp I w I w := Kp.refl
  unfold g70 at hf
  refine Ret.of Try.func70 rfl ?_
  refine WPK.seq ?_
  refine WPK.region ?_
  refine RW.op (by kernel_rfl) (OK.new hT (f := fun b => .pointer (some ⟨b, 0, none⟩)) (cs := [.bool false, .slice none 0 0, .slice none 0 0, .slice none 0 0]) (e := 26) (c := .tt) s (by kernel_rfl) trivial ?_)
  clear s
  rintro w2 b2 s k1 -
  replace rp1 := rp1.st k1
  replace kk := kk.trans k1
  refine RW.nil ?_
  refine WPK.seq ?_
  refine WPK.region ?_
  refine RW.seg hT 1 [] [] [.agg #[.bool true, .slice none 0 0, .slice none 0 0, .slice none 0 0]] [] (by kernel_rfl) (trivial) ?_
  refine RW.op (by kernel_rfl) (OK.new hT (f := fun b => .pointer (some ⟨b, 0, none⟩)) (cs := [.bool false, .slice none 0 0, .slice none 0 0, .slice none 0 0]) (e := 26) (c := .tt) s (by kernel_rfl) trivial ?_)
  clear s
  rintro w3 b3 s k2 -
  replace rp1 := rp1.st k2
  replace kk := kk.trans k2
  refine RW.op (by kernel_rfl) (OK.store hT (i := 0) (b := b3) (off := 0) (n := 4) (vs := [.bool true, .slice none 0 0, .slice none 0 0, .slice none 0 0]) (cs := [.bool false, .slice none 0 0, .slice none 0 0, .slice none 0 0]) (e := 26) s (by kernel_rfl) rfl rfl (flat_ok rfl) (Nat.le_of_ble_eq_true rfl) ?_)
  clear s
  rintro w4 s k3 -
  replace rp1 := rp1.st k3
  replace kk := kk.trans k3
  refine RW.nil ?_
  refine WPK.seq ?_
  refine WPK.seq ?_
  refine WPK.region ?_
  refine RW.seg hT 1 [] [] [.pointer (some ⟨b1, 0, none⟩)] [] (by kernel_rfl) (trivial) ?_
  replace s := s.pick [2, 3, 0, 1] 4 rfl
  obtain ⟨x1, hx1, hf⟩ := bindS hf
  refine RW.op (by kernel_rfl) (OK.call' en99 (by kernel_rfl) (c99 (F := (.blk b3 (.cells #[.bool true, .slice none 0 0, .slice none 0 0, .slice none 0 0] 26 (0, 0))) :: (.blk b2 (.cells #[.bool false, .slice none 0 0, .slice none 0 0, .slice none 0 0] 26 (0, 0))) :: F) p0 b1 A1 n1 u1 cl1 hn1 rp1 s hx1) ?_)
  intro X1 hX1
  refine fun _ _ hJ => hJ X1 ?_
  clear s
  intro I1 A6 u6 w5 s k4 hc1 e1
  refine hX1 _ _ ?_
  replace rp1 := rp1.st k4
  replace kk := kk.trans k4
  refine RW.seg hT 1 [] [] [.int .u8 0] [] (by kernel_rfl) (trivial) ?_
  refine RW.nil ?_
  refine WPK.block ?_
  replace s := s.pushNil 48 2
  replace s := s.pick [1, 2, 3, 0] 4 rfl
  refine WPK.loop' (J := fun n5 D1 ds wz => ∀ X : Kont, (∀ (I2 : Nat → Prop) (x2 : Int) (x3 : (List Int)) (x4 : Int) (x5 : Bool) (x6 : (List T_api_Pair)) (A7 : Option Addr) (u7 : Nat) (A8 : Option Addr) (u8 : Nat) (cl5 : List Value) (w' : World), g70_l1 x1 n5 x2 x3 x4 x5 x6 = some r → St w1 M I2 ((.blk b1 (.cells #[.slice A7 x3.length u7, .int .i64 x4, .bool x5] 118 (0, 0))) :: (.blk b3 (.cells #[.bool true, .slice A8 x6.length u8, .slice none 0 0, .slice none 0 0] 26 (0, 0))) :: (.blk b2 (.cells #[.bool false, .slice none 0 0, .slice none 0 0, .slice none 0 0] 26 (0, 0))) :: (.sl (.slice A8 x6.length u8) 48 2 x6.length cl5) :: F) w' → Kp I w I2 w' → (x3.length ≤ u7 ∧ u7 ≤ 9223372036854775807) → Elems (Rp.int .u8) I2 w' A7 x3 → RepL rp_T_api_Pair I2 w' cl5 x6 → X [.pointer (some ⟨b1, 0, none⟩), (D1.getD 1 undef), .pointer (some ⟨b2, 0, none⟩), .pointer (some ⟨b3, 0, none⟩), (D1.getD 4 undef), (D1.getD 5 undef), (D1.getD 6 undef), .int .u8 x1.1, .int .u8 x2, (D1.getD 9 undef), (D1.getD 10 undef), (D1.getD 11 undef), (D1.getD 12 undef), (D1.getD 13 undef), (D1.getD 14 undef), (D1.getD 15 undef), (D1.getD 16 undef), (D1.getD 17 undef), (D1.getD 18 undef), (D1.getD 19 undef), (D1.getD 20 undef), (D1.getD 21 undef), (D1.getD 22 undef), (D1.getD 23 undef), (D1.getD 24 undef), undef] [] w') → X D1 ds wz) FUEL (fun X h => kc (by kernel_rfl) rfl (h I1 0 x1.2.b x1.2.err x1.2.made ([] : List T_api_Pair) A6 u6 none 0 [] _ hf s kk hc1 e1 (RepL.nil (r := rp_T_api_Pair)))) (fun _ _ _ hJ => hJ (fun _ _ _ => False) (by intro I2 x2 x3 x4 x5 x6 A7 u7 A8 u8 cl5 w6 hf s kk hc2 e2 rp2; exact noneS hf)) ?_
  intro X2 hX2
  refine fun n5 D1 _ _ hJ => hJ (X2 n5) ?_
  clear s
  intro I2 x2 x3 x4 x5 x6 A7 u7 A8 u8 cl5 w6 hf s kk hc2 e2 rp2
  refine hX2 _ _ _ _ ?_
  replace hf : g70_l1B x1 (g70_l1 x1 n5) x2 x3 x4 x5 x6 = some r := hf
  generalize hrec1 : g70_l1 x1 n5 = rec1 at hf
  unfold g70_l1B at hf
  refine WPK.seq ?_
  refine WPK.region ?_
  refine RW.seg hT 1 [] [] [.bool (decide (x2 < x1.1))] [] (by kernel_rfl) (trivial) ?_
  refine RW.nil ?_
  refine WPK.seq ?_
  by_cases h1 : x2 < x1.1
  have hf := iteT h1 hf
  refine WPK.condT (Eq.trans (b := .bool (decide (x2 < x1.1))) (by kernel_rfl) (bo_t h1)) ?_
  refine WPK.skip ?_
  refine WPK.seq ?_
  refine WPK.block ?_
  refine WPK.seq ?_
  refine WPK.region ?_
  refine RW.seg hT 1 [] [] [.pointer (some ⟨b1, 0, none⟩)] [] (by kernel_rfl) (trivial) ?_
  obtain ⟨x7, hx2, hf⟩ := bindS hf
  refine RW.op (by kernel_rfl) (OK.call' en100 (by kernel_rfl) (c100 (F := (.blk b3 (.cells #[.bool true, .slice A8 x6.length u8, .slice none 0 0, .slice none 0 0] 26 (0, 0))) :: (.blk b2 (.cells #[.bool false, .slice none 0 0, .slice none 0 0, .slice none 0 0] 26 (0, 0))) :: (.sl (.slice A8 x6.length u8) 48 2 x6.length cl5) :: F) (T_pack_Reader.mk x3 x4 x5) 25 b1 A7 u7 hc2 e2 s hx2) ?_)
  intro X3 hX3
  refine fun _ _ hJ => hJ X3 ?_
  clear s
  intro I3 A9 u9 A10 u10 w7 s k5 hc3 e3 hc4 e4
  refine hX3 _ _ ?_
  replace e2 := e2.st k5
  replace rp2 := rp2.st k5
  replace kk := kk.trans k5
  refine RW.seg hT 1 [] [] [.slice A9 x7.1.length u9] [] (by kernel_rfl) (trivial) ?_
  refine RW.nil ?_
  refine WPK.seq ?_
  refine WPK.cut' (Kn fun D2 ds wz => ∀ X : Kont, (∀ (I4 : Nat → Prop) (x8 : (List Int)) (x9 : (List Int)) (x10 : (List T_api_Pair)) (x11 : (List T_api_Pair)) (x12 : (List Int)) (x13 : Int) (x14 : Bool) (A11 : Option Addr) (u11 : Nat) (A12 : Option Addr) (u12 : Nat) (A13 : Option Addr) (u13 : Nat) (cl6 : List Value) (A14 : Option Addr) (u14 : Nat) (cl7 : List Value) (A15 : Option Addr) (u15 : Nat) (w' : World), g70_j2 x2 rec1 x8 x9 x10 x11 x12 x13 x14 = some r → St w1 M I4 ((.sl (.slice A13 x10.length u13) 48 2 x10.length cl6) :: (.blk b1 (.cells #[.slice A15 x12.length u15, .int .i64 x13, .bool x14] 118 (0, 0))) :: (.blk b3 (.cells #[.bool true, .slice A14 x11.length u14, .slice none 0 0, .slice none 0 0] 26 (0, 0))) :: (.blk b2 (.cells #[.bool false, .slice none 0 0, .slice none 0 0, .slice none 0 0] 26 (0, 0))) :: (.sl (.slice A14 x11.length u14) 48 2 x11.length cl7) :: F) w' → Kp I w I4 w' → Elems (Rp.int .u8) I4 w' A9 x7.1 → (x8.length ≤ u11 ∧ u11 ≤ 9223372036854775807) → Elems (Rp.int .u8) I4 w' A11 x8 → (x9.length ≤ u12 ∧ u12 ≤ 9223372036854775807) → Elems (Rp.int .u8) I4 w' A12 x9 → RepL rp_T_api_Pair I4 w' cl6 x10 → RepL rp_T_api_Pair I4 w' cl7 x11 → (x12.length ≤ u15 ∧ u15 ≤ 9223372036854775807) → Elems (Rp.int .u8) I4 w' A15 x12 → X [.pointer (some ⟨b1, 0, none⟩), (D2.getD 1 undef), .pointer (some ⟨b2, 0, none⟩), .pointer (some ⟨b3, 0, none⟩), .slice A9 x7.1.length u9, (D2.getD 5 undef), (D2.getD 6 undef), .int .u8 x1.1, .int .u8 x2, .bool (decide (x2 < x1.1)), .pointer (some ⟨b1, 0, none⟩), .slice A9 x7.1.length u9, .pointer (some ⟨b3, 1, none⟩), (.slice A8 x6.length u8), .slice A9 x7.1.length u9, .pointer (some ⟨b1, 0, none⟩), .slice A11 x8.length u11, .agg #[.slice A9 x7.1.length u9, .slice A12 x9.length u12], .slice A13 x10.length u13, .slice A14 x11.length u14, .pointer (some ⟨b3, 1, none⟩), (D1.getD 21 undef), (D1.getD 22 undef), (D1.getD 23 undef), (D1.getD 24 undef), undef] [] w') → X D2 ds wz) ?_ ?_
  intro X4 hX4
  refine fun D2 _ _ hJ => hJ X4 ?_
  clear s
  intro I4 x8 x9 x10 x11 x12 x13 x14 A11 u11 A12 u12 A13 u13 cl6 A14 u14 cl7 A15 u15 w8 hf s kk e3 hc5 e5 hc6 e6 rp3 rp4 hc7 e7
  refine hX4 _ _ _ ?_
  unfold g70_j2 at hf
  refine WPK.seq ?_
  refine WPK.region ?_
  refine RW.seg hT 1 [] [] [.pointer (some ⟨b1, 0, none⟩)] [] (by kernel_rfl) (trivial) ?_
  replace s := s.pick [1, 0, 2, 3, 4] 5 rfl
  obtain ⟨x15, hx3, hf⟩ := bindS hf
  refine RW.op (by kernel_rfl) (OK.call' en72 (by kernel_rfl) (c72 (F := (.sl (.slice A13 x10.length u13) 48 2 x10.length cl6) :: (.blk b3 (.cells #[.bool true, .slice A14 x11.length u14, .slice none 0 0, .slice none 0 0] 26 (0, 0))) :: (.blk b2 (.cells #[.bool false, .slice none 0 0, .slice none 0 0, .slice none 0 0] 26 (0, 0))) :: (.sl (.slice A14 x11.length u14) 48 2 x11.length cl7) :: F) (T_pack_Reader.mk x12 x13 x14) b1 A15 u15 hc7 e7 s hx3) ?_)
  intro X5 hX5
  refine fun _ _ hJ => hJ X5 ?_
  clear s
  intro I5 w9 s k6
  refine hX5 _ _ ?_
  replace e3 := e3.st k6
  replace e5 := e5.st k6
  replace e6 := e6.st k6
  replace e7 := e7.st k6
  replace rp3 := rp3.st k6
  replace rp4 := rp4.st k6
  replace kk := kk.trans k6
  refine RW.seg hT 1 [] [(23, .bool (decide (x15 ≠ 0)))] [.bool (decide (x15 ≠ 0))] [.veq (.bool (x15 != 0)) (.bool (decide (x15 ≠ 0)))] (by kernel_rfl) (ne_v) ?_
  refine RW.nil ?_
  by_cases h2 : x15 ≠ 0
  have hf := iteT h2 hf
  refine WPK.condT (Eq.trans (b := .bool (decide (x15 ≠ 0))) (by kernel_rfl) (bo_t h2)) ?_
  refine WPK.exit (blockQ.other rfl (blockQ.same ?_))
  refine WPK.seq ?_
  refine WPK.region ?_
  refine RW.seg hT 1 [.agg #[.bool true, .slice A14 x11.length u14, .slice none 0 0, .slice none 0 0]] [] [.agg #[.bool true, .slice A14 x11.length u14, .slice none 0 0, .slice none 0 0]] [.cells ⟨b3, 0, none⟩ [.bool true, .slice A14 x11.length u14, .slice none 0 0, .slice none 0 0] 4] (by kernel_rfl) (s.cells (i := 2) rfl rfl rfl) ?_
  refine RW.op (by kernel_rfl) (OK.store hT (i := 3) (b := b2) (off := 0) (n := 4) (vs := [.bool true, .slice A14 x11.length u14, .slice none 0 0, .slice none 0 0]) (cs := [.bool false, .slice none 0 0, .slice none 0 0, .slice none 0 0]) (e := 26) s (by kernel_rfl) rfl rfl (flat_ok rfl) (Nat.le_of_ble_eq_true rfl) ?_)
  clear s
  rintro w10 s k7 -
  replace e3 := e3.st k7
  replace e5 := e5.st k7
  replace e6 := e6.st k7
  replace e7 := e7.st k7
  replace rp3 := rp3.st k7
  replace rp4 := rp4.st k7
  replace kk := kk.trans k7
  refine RW.nil ?_
  refine WPK.ret (?_)
  obtain rfl := someS hf
  refine Fin.of (rs := [.cell 2 26]) hT [.agg #[.bool true, .slice A14 x11.length u14, .slice none 0 0, .slice none 0 0]] (.agg #[.bool true, .slice A14 x11.length u14, .slice none 0 0, .slice none 0 0]) [.cells ⟨b2, 0, none⟩ [.bool true, .slice A14 x11.length u14, .slice none 0 0, .slice none 0 0] 4] rfl (by kernel_rfl) (s.cells (i := 3) rfl rfl rfl) ?_
  replace s := s.pushNil 27 1
  replace s := s.pushNil 3 1
  replace s := s.pick [6, 1, 0, 2] 7 rfl
  exact fun X h => vc rfl (h I5 A14 x11.length u14 cl7 none 0 0 [] none 0 0 [] A15 u15 _ s kk rfl rp4 rfl (RepL.nil (r := (Rp.slice (Rp.int .u8)))) rfl (RepL.nil (r := (Rp.int .i64))) hc7 e7)
  have hf := iteF h2 hf
  refine WPK.condF (Eq.trans (b := .bool (decide (x15 ≠ 0))) (by kernel_rfl) (bo_f h2)) ?_
  refine WPK.skip ?_
  refine WPK.region ?_
  refine RW.seg hT 2 [] [] [.int .u8 (IntKind.u8.wrap (x2 + 1)), .int .u8 (IntKind.u8.wrap (x2 + 1))] [] (by kernel_rfl) (trivial) ?_
  refine RW.nil ?_
  subst hrec1
  replace s := s.pick [0, 2, 3, 4] 5 rfl
  exact ⟨n5, Nat.le_refl _, fun X h => kc (by kernel_rfl) rfl (h I5 (IntKind.u8.wrap (x2 + 1)) x12 x13 x14 x11 A15 u15 A14 u14 cl7 _ hf s kk hc7 e7 rp4)⟩
  have e3S1 := e3
  have e4S1 := e4
  have rp2S1 := rp2
  have kS1 : Kp I3 w7 I3 w7 := Kp.refl
  refine WPK.drawM (fun w' => ∃ I' : Nat → Prop, St w1 M I' ((.blk b2 (.cells #[.bool false, .slice none 0 0, .slice none 0 0, .slice none 0 0] 26 (0, 0))) :: F) w' ∧ Kp I3 w7 I' w') 10 [0, 1, 0, 0, 8, 28, 60, 127, 255, 511] (by kernel_rfl) (by kernel_rfl) ?_
  intro ht1 w11 hd1
  have k8 := Kp.dr s hd1
  replace s := s.dr hd1
  replace e3 := e3.st k8
  replace e4 := e4.st k8
  replace rp2 := rp2.st k8
  replace kk := kk.trans k8
  replace kS1 := kS1.trans k8
  refine RD.segM hT ht1 (by kernel_rfl) [0, 2, 3] [] [] [.pointer (some ⟨b3, 1, none⟩), .slice A9 x7.1.length u9, .pointer (some ⟨b1, 0, none⟩)] [] (by kernel_rfl) (fun _ _ => trivial) ⟨_, s.pick [2] 4 rfl, kS1⟩ ?_
  obtain ⟨x16, hx4, hf⟩ := bindS hf
  refine RD.ways [1, 4] (by kernel_rfl) (List.forall_mem_cons.2 ⟨?_, List.forall_mem_cons.2 ⟨?_, fun _ h => nomatch h⟩⟩)
  refine RWay.op rfl (by kernel_rfl) (OK.pure hT (ld := (.slice A8 x6.length u8)) (v := .slice A8 x6.length u8) (c := .cell ⟨b3, 1, none⟩ (.slice A8 x6.length u8)) (by kernel_rfl) (s.cell (i := 1) (off := 1) rfl rfl) ?_)
  refine ⟨fun _ => ⟨_, s.pick [2] 4 rfl, kS1⟩, RD.fold ?_⟩
  refine RD.op (i := 4) rfl (by kernel_rfl) (by kernel_rfl) (OK.call' en100 (by kernel_rfl) (c100 (F := (.blk b3 (.cells #[.bool true, .slice A8 x6.length u8, .slice none 0 0, .slice none 0 0] 26 (0, 0))) :: (.blk b2 (.cells #[.bool false, .slice none 0 0, .slice none 0 0, .slice none 0 0] 26 (0, 0))) :: (.sl (.slice A8 x6.length u8) 48 2 x6.length cl5) :: F) x7.2 24 b1 A10 u10 hc4 e4 s hx4) ?_)
  intro X6 hX6
  refine fun _ _ hJ => hJ X6 ?_
  clear s
  intro I6 A16 u16 A17 u17 w12 s k9 hc8 e8 hc9 e9
  refine hX6 _ _ ?_
  replace e3 := e3.st k9
  replace e4 := e4.st k9
  replace rp2 := rp2.st k9
  replace kk := kk.trans k9
  replace kS1 := kS1.trans k9
  refine ⟨fun _ => ⟨_, s.pick [2] 4 rfl, kS1⟩, RD.fold ?_⟩
  refine RD.segM hT ht1 (by kernel_rfl) [5] [] [] [.agg #[.slice A9 x7.1.length u9, .slice A16 x16.1.length u16]] [] (by kernel_rfl) (fun _ _ => trivial) ⟨_, s.pick [2] 4 rfl, kS1⟩ ?_
  refine RD.op (i := 6) rfl (by kernel_rfl) (by kernel_rfl) (OK.new hT (f := fun b => .slice (some ⟨b, 0, none⟩) 1 1) (cs := [.slice A9 x7.1.length u9, .slice A16 x16.1.length u16]) (e := 48) (c := .tt) s (by kernel_rfl) trivial ?_)
  clear s
  rintro w13 b4 s k10 -
  replace e3 := e3.st k10
  replace e8 := e8.st k10
  replace e9 := e9.st k10
  replace rp2 := rp2.st k10
  replace kk := kk.trans k10
  replace kS1 := kS1.trans k10
  have rp5 : RepL rp_T_api_Pair I6 w13 [.slice A9 x7.1.length u9, .slice A16 x16.1.length u16] ([(T_api_Pair.mk x7.1 x16.1)] : List T_api_Pair) := RepL.cons (c := [.slice A9 x7.1.length u9, .slice A16 x16.1.length u16]) (d := []) (⟨[.slice A9 x7.1.length u9], [.slice A16 x16.1.length u16], rfl, ⟨_, _, rfl, hc3.1, hc3.2, e3⟩, ⟨_, _, rfl, hc8.1, hc8.2, e8⟩⟩) (RepL.nil)
  replace s : St w1 M I6 ((.sl (.slice (some ⟨b4, 0, none⟩) 1 1) 48 2 1 [.slice A9 x7.1.length u9, .slice A16 x16.1.length u16]) :: (.blk b1 (.cells #[.slice A17 x16.2.b.length u17, .int .i64 x16.2.err, .bool x16.2.made] 118 (0, 0))) :: (.blk b3 (.cells #[.bool true, .slice A8 x6.length u8, .slice none 0 0, .slice none 0 0] 26 (0, 0))) :: (.blk b2 (.cells #[.bool false, .slice none 0 0, .slice none 0 0, .slice none 0 0] 26 (0, 0))) :: (.sl (.slice A8 x6.length u8) 48 2 x6.length cl5) :: F) w13 := s.blkSl (i := 0) (n := 1) (c := 1) (size := 2) rfl rfl (Nat.le_refl _) (by decide)
  refine ⟨fun _ => ⟨_, s.pick [3] 5 rfl, kS1⟩, RD.fold ?_⟩
  have hs1 := St.src s (i := 0) rfl rfl rp5
  have rq1 := rp5
  obtain ⟨x17, hx5, hf⟩ := bindS hf
  refine RD.op (i := 7) rfl (by kernel_rfl) (by kernel_rfl) (OK.app hT (r := rp_T_api_Pair) (i := 4) (t := 22) (e := 48) (size := 2) (bytes := 48) (c := u8) (n := x6.length) (m := 1) s (by kernel_rfl) rfl rfl rfl rfl rfl (by decide) rfl rfl rfl rfl rp2 hs1 rq1 (flat_iso (flat_pair flat_slice flat_slice)) rfl hx5 ?_)
  clear s
  rintro A18 u18 cl8 w14 s k11 rp6
  replace e3 := e3.st k11
  replace e8 := e8.st k11
  replace e9 := e9.st k11
  replace rp5 := rp5.st k11
  replace rp2 := rp2.st k11
  replace kk := kk.trans k11
  replace kS1 := kS1.trans k11
  refine ⟨fun _ => ⟨_, s.pick [3] 5 rfl, kS1⟩, RD.fold ?_⟩
  refine RD.segM hT ht1 (by kernel_rfl) [8] [] [] [.pointer (some ⟨b3, 1, none⟩)] [] (by kernel_rfl) (fun _ _ => trivial) ⟨_, s.pick [3] 5 rfl, kS1⟩ ?_
  refine RD.op (i := 9) rfl (by kernel_rfl) (by kernel_rfl) (OK.store hT (i := 2) (b := b3) (off := 1) (n := 1) (vs := [.slice A18 x17.length u18]) (cs := [.bool true, (.slice A8 x6.length u8), .slice none 0 0, .slice none 0 0]) (e := 26) s (by kernel_rfl) rfl rfl (flat_ok rfl) (Nat.le_of_ble_eq_true rfl) ?_)
  clear s
  rintro w15 s k12 -
  replace e3 := e3.st k12
  replace e8 := e8.st k12
  replace e9 := e9.st k12
  replace rp5 := rp5.st k12
  replace rp6 := rp6.st k12
  replace kk := kk.trans k12
  replace kS1 := kS1.trans k12
  refine ⟨fun _ => ⟨_, s.pick [3] 5 rfl, kS1⟩, RD.fold ?_⟩
  refine RD.done (by kernel_rfl) ?_
  exact fun X h => kc (by kernel_rfl) rfl (h I6 x16.1 x16.1 ([(T_api_Pair.mk x7.1 x16.1)] : List T_api_Pair) x17 x16.2.b x16.2.err x16.2.made A16 u16 A16 u16 (some ⟨b4, 0, none⟩) 1 [.slice A9 x7.1.length u9, .slice A16 x16.1.length u16] A18 u18 cl8 A17 u17 _ hf s kk e3 hc8 e8 hc8 e8 rp5 rp6 hc9 e9)
  refine RWay.op rfl (by kernel_rfl) (OK.call' en100 (by kernel_rfl) (c100 (F := (.blk b3 (.cells #[.bool true, .slice A8 x6.length u8, .slice none 0 0, .slice none 0 0] 26 (0, 0))) :: (.blk b2 (.cells #[.bool false, .slice none 0 0, .slice none 0 0, .slice none 0 0] 26 (0, 0))) :: (.sl (.slice A8 x6.length u8) 48 2 x6.length cl5) :: F) x7.2 24 b1 A10 u10 hc4 e4 s hx4) ?_)
  intro X7 hX7
  refine fun _ _ hJ => hJ X7 ?_
  clear s
  intro I7 A19 u19 A20 u20 w16 s k13 hc10 e10 hc11 e11
  refine hX7 _ _ ?_
  replace e3 := e3.st k13
  replace e4 := e4.st k13
  replace rp2 := rp2.st k13
  replace kk := kk.trans k13
  replace kS1 := kS1.trans k13
  refine ⟨fun _ => ⟨_, s.pick [2] 4 rfl, kS1⟩, RD.fold ?_⟩
  refine RD.segM hT ht1 (by kernel_rfl) [5] [] [] [.agg #[.slice A9 x7.1.length u9, .slice A19 x16.1.length u19]] [] (by kernel_rfl) (fun _ _ => trivial) ⟨_, s.pick [2] 4 rfl, kS1⟩ ?_
  refine RD.ways [1, 6] (by kernel_rfl) (List.forall_mem_cons.2 ⟨?_, List.forall_mem_cons.2 ⟨?_, fun _ h => nomatch h⟩⟩)
  refine RWay.op rfl (by kernel_rfl) (OK.pure hT (ld := (.slice A8 x6.length u8)) (v := .slice A8 x6.length u8) (c := .cell ⟨b3, 1, none⟩ (.slice A8 x6.length u8)) (by kernel_rfl) (s.cell (i := 1) (off := 1) rfl rfl) ?_)
  refine ⟨fun _ => ⟨_, s.pick [2] 4 rfl, kS1⟩, RD.fold ?_⟩
  refine RD.op (i := 6) rfl (by kernel_rfl) (by kernel_rfl) (OK.new hT (f := fun b => .slice (some ⟨b, 0, none⟩) 1 1) (cs := [.slice A9 x7.1.length u9, .slice A19 x16.1.length u19]) (e := 48) (c := .tt) s (by kernel_rfl) trivial ?_)
  clear s
  rintro w17 b5 s k14 -
  replace e3 := e3.st k14
  replace e10 := e10.st k14
  replace e11 := e11.st k14
  replace rp2 := rp2.st k14
  replace kk := kk.trans k14
  replace kS1 := kS1.trans k14
  have rp7 : RepL rp_T_api_Pair I7 w17 [.slice A9 x7.1.length u9, .slice A19 x16.1.length u19] ([(T_api_Pair.mk x7.1 x16.1)] : List T_api_Pair) := RepL.cons (c := [.slice A9 x7.1.length u9, .slice A19 x16.1.length u19]) (d := []) (⟨[.slice A9 x7.1.length u9], [.slice A19 x16.1.length u19], rfl, ⟨_, _, rfl, hc3.1, hc3.2, e3⟩, ⟨_, _, rfl, hc10.1, hc10.2, e10⟩⟩) (RepL.nil)
  replace s : St w1 M I7 ((.sl (.slice (some ⟨b5, 0, none⟩) 1 1) 48 2 1 [.slice A9 x7.1.length u9, .slice A19 x16.1.length u19]) :: (.blk b1 (.cells #[.slice A20 x16.2.b.length u20, .int .i64 x16.2.err, .bool x16.2.made] 118 (0, 0))) :: (.blk b3 (.cells #[.bool true, .slice A8 x6.length u8, .slice none 0 0, .slice none 0 0] 26 (0, 0))) :: (.blk b2 (.cells #[.bool false, .slice none 0 0, .slice none 0 0, .slice none 0 0] 26 (0, 0))) :: (.sl (.slice A8 x6.length u8) 48 2 x6.length cl5) :: F) w17 := s.blkSl (i := 0) (n := 1) (c := 1) (size := 2) rfl rfl (Nat.le_refl _) (by decide)
  refine ⟨fun _ => ⟨_, s.pick [3] 5 rfl, kS1⟩, RD.fold ?_⟩
  have hs2 := St.src s (i := 0) rfl rfl rp7
  have rq2 := rp7
  obtain ⟨x18, hx6, hf⟩ := bindS hf
  refine RD.op (i := 7) rfl (by kernel_rfl) (by kernel_rfl) (OK.app hT (r := rp_T_api_Pair) (i := 4) (t := 22) (e := 48) (size := 2) (bytes := 48) (c := u8) (n := x6.length) (m := 1) s (by kernel_rfl) rfl rfl rfl rfl rfl (by decide) rfl rfl rfl rfl rp2 hs2 rq2 (flat_iso (flat_pair flat_slice flat_slice)) rfl hx6 ?_)
  clear s
  rintro A21 u21 cl9 w18 s k15 rp8
  replace e3 := e3.st k15
  replace e10 := e10.st k15
  replace e11 := e11.st k15
  replace rp7 := rp7.st k15
  replace rp2 := rp2.st k15
  replace kk := kk.trans k15
  replace kS1 := kS1.trans k15
  refine ⟨fun _ => ⟨_, s.pick [3] 5 rfl, kS1⟩, RD.fold ?_⟩
  refine RD.segM hT ht1 (by kernel_rfl) [8] [] [] [.pointer (some ⟨b3, 1, none⟩)] [] (by kernel_rfl) (fun _ _ => trivial) ⟨_, s.pick [3] 5 rfl, kS1⟩ ?_
  refine RD.op (i := 9) rfl (by kernel_rfl) (by kernel_rfl) (OK.store hT (i := 2) (b := b3) (off := 1) (n := 1) (vs := [.slice A21 x18.length u21]) (cs := [.bool true, (.slice A8 x6.length u8), .slice none 0 0, .slice none 0 0]) (e := 26) s (by kernel_rfl) rfl rfl (flat_ok rfl) (Nat.le_of_ble_eq_true rfl) ?_)
  clear s
  rintro w19 s k16 -
  replace e3 := e3.st k16
  replace e10 := e10.st k16
  replace e11 := e11.st k16
  replace rp7 := rp7.st k16
  replace rp8 := rp8.st k16
  replace kk := kk.trans k16
  replace kS1 := kS1.trans k16
  refine ⟨fun _ => ⟨_, s.pick [3] 5 rfl, kS1⟩, RD.fold ?_⟩
  refine RD.done (by kernel_rfl) ?_
  exact fun X h => kc (by kernel_rfl) rfl (h I7 x16.1 x16.1 ([(T_api_Pair.mk x7.1 x16.1)] : List T_api_Pair) x18 x16.2.b x16.2.err x16.2.made A19 u19 A19 u19 (some ⟨b5, 0, none⟩) 1 [.slice A9 x7.1.length u9, .slice A19 x16.1.length u19] A21 u21 cl9 A20 u20 _ hf s kk e3 hc10 e10 hc10 e10 rp7 rp8 hc11 e11)
  refine RWay.op rfl (by kernel_rfl) (OK.new hT (f := fun b => .slice (some ⟨b, 0, none⟩) 1 1) (cs := [.slice A9 x7.1.length u9, .slice A19 x16.1.length u19]) (e := 48) (c := .tt) s (by kernel_rfl) trivial ?_)
  clear s
  rintro w17 b5 s k14 -
  replace e3 := e3.st k14
  replace e10 := e10.st k14
  replace e11 := e11.st k14
  replace rp2 := rp2.st k14
  replace kk := kk.trans k14
  replace kS1 := kS1.trans k14
  have rp7 : RepL rp_T_api_Pair I7 w17 [.slice A9 x7.1.length u9, .slice A19 x16.1.length u19] ([(T_api_Pair.mk x7.1 x16.1)] : List T_api_Pair) := RepL.cons (c := [.slice A9 x7.1.length u9, .slice A19 x16.1.length u19]) (d := []) (⟨[.slice A9 x7.1.length u9], [.slice A19 x16.1.length u19], rfl, ⟨_, _, rfl, hc3.1, hc3.2, e3⟩, ⟨_, _, rfl, hc10.1, hc10.2, e10⟩⟩) (RepL.nil)
  replace s : St w1 M I7 ((.sl (.slice (some ⟨b5, 0, none⟩) 1 1) 48 2 1 [.slice A9 x7.1.length u9, .slice A19 x16.1.length u19]) :: (.blk b1 (.cells #[.slice A20 x16.2.b.length u20, .int .i64 x16.2.err, .bool x16.2.made] 118 (0, 0))) :: (.blk b3 (.cells #[.bool true, .slice A8 x6.length u8, .slice none 0 0, .slice none 0 0] 26 (0, 0))) :: (.blk b2 (.cells #[.bool false, .slice none 0 0, .slice none 0 0, .slice none 0 0] 26 (0, 0))) :: (.sl (.slice A8 x6.length u8) 48 2 x6.length cl5) :: F) w17 := s.blkSl (i := 0) (n := 1) (c := 1) (size := 2) rfl rfl (Nat.le_refl _) (by decide)
  refine ⟨fun _ => ⟨_, s.pick [3] 5 rfl, kS1⟩, RD.fold ?_⟩
  refine RD.op (i := 1) rfl (by kernel_rfl) (by kernel_rfl) (OK.pure hT (ld := (.slice A8 x6.length u8)) (v := .slice A8 x6.length u8) (c := .cell ⟨b3, 1, none⟩ (.slice A8 x6.length u8)) (by kernel_rfl) (s.cell (i := 2) (off := 1) rfl rfl) ?_)
  refine ⟨fun _ => ⟨_, s.pick [3] 5 rfl, kS1⟩, RD.fold ?_⟩
  have hs3 := St.src s (i := 0) rfl rfl rp7
  have rq3 := rp7
  obtain ⟨x19, hx7, hf⟩ := bindS hf
  refine RD.op (i := 7) rfl (by kernel_rfl) (by kernel_rfl) (OK.app hT (r := rp_T_api_Pair) (i := 4) (t := 22) (e := 48) (size := 2) (bytes := 48) (c := u8) (n := x6.length) (m := 1) s (by kernel_rfl) rfl rfl rfl rfl rfl (by decide) rfl rfl rfl rfl rp2 hs3 rq3 (flat_iso (flat_pair flat_slice flat_slice)) rfl hx7 ?_)
  clear s
  rintro A22 u22 cl10 w20 s k17 rp9
  replace e3 := e3.st k17
  replace e10 := e10.st k17
  replace e11 := e11.st k17
  replace rp7 := rp7.st k17
  replace rp2 := rp2.st k17
  replace kk := kk.trans k17
  replace kS1 := kS1.trans k17
  refine ⟨fun _ => ⟨_, s.pick [3] 5 rfl, kS1⟩, RD.fold ?_⟩
  refine RD.segM hT ht1 (by kernel_rfl) [8] [] [] [.pointer (some ⟨b3, 1, none⟩)] [] (by kernel_rfl) (fun _ _ => trivial) ⟨_, s.pick [3] 5 rfl, kS1⟩ ?_
  refine RD.op (i := 9) rfl (by kernel_rfl) (by kernel_rfl) (OK.store hT (i := 2) (b := b3) (off := 1) (n := 1) (vs := [.slice A22 x19.length u22]) (cs := [.bool true, (.slice A8 x6.length u8), .slice none 0 0, .slice none 0 0]) (e := 26) s (by kernel_rfl) rfl rfl (flat_ok rfl) (Nat.le_of_ble_eq_true rfl) ?_)
  clear s
  rintro w21 s k18 -
  replace e3 := e3.st k18
  replace e10 := e10.st k18
  replace e11 := e11.st k18
  replace rp7 := rp7.st k18
  replace rp9 := rp9.st k18
  replace kk := kk.trans k18
  replace kS1 := kS1.trans k18
  refine ⟨fun _ => ⟨_, s.pick [3] 5 rfl, kS1⟩, RD.fold ?_⟩
  refine RD.done (by kernel_rfl) ?_
  exact fun X h => kc (by kernel_rfl) rfl (h I7 x16.1 x16.1 ([(T_api_Pair.mk x7.1 x16.1)] : List T_api_Pair) x19 x16.2.b x16.2.err x16.2.made A19 u19 A19 u19 (some ⟨b5, 0, none⟩) 1 [.slice A9 x7.1.length u9, .slice A19 x16.1.length u19] A22 u22 cl10 A20 u20 _ hf s kk e3 hc10 e10 hc10 e10 rp7 rp9 hc11 e11)
  have hf := iteF h1 hf
  refine WPK.condF (Eq.trans (b := .bool (decide (x2 < x1.1))) (by kernel_rfl) (bo_f h1)) ?_
  refine WPK.exit (blockQ.same ?_)
  refine WPK.seq ?_
  refine WPK.region ?_
  refine RW.seg hT 1 [.agg #[.bool true, .slice A8 x6.length u8, .slice none 0 0, .slice none 0 0]] [] [.agg #[.bool true, .slice A8 x6.length u8, .slice none 0 0, .slice none 0 0]] [.cells ⟨b3, 0, none⟩ [.bool true, .slice A8 x6.length u8, .slice none 0 0, .slice none 0 0] 4] (by kernel_rfl) (s.cells (i := 1) rfl rfl rfl) ?_
  refine RW.op (by kernel_rfl) (OK.store hT (i := 2) (b := b2) (off := 0) (n := 4) (vs := [.bool true, .slice A8 x6.length u8, .slice none 0 0, .slice none 0 0]) (cs := [.bool false, .slice none 0 0, .slice none 0 0, .slice none 0 0]) (e := 26) s (by kernel_rfl) rfl rfl (flat_ok rfl) (Nat.le_of_ble_eq_true rfl) ?_)
  clear s
  rintro w22 s k19 -
  replace e2 := e2.st k19
  replace rp2 := rp2.st k19
  replace kk := kk.trans k19
  refine RW.nil ?_
  refine WPK.ret (?_)
  obtain rfl := someS hf
  refine Fin.of (rs := [.cell 2 26]) hT [.agg #[.bool true, .slice A8 x6.length u8, .slice none 0 0, .slice none 0 0]] (.agg #[.bool true, .slice A8 x6.length u8, .slice none 0 0, .slice none 0 0]) [.cells ⟨b2, 0, none⟩ [.bool true, .slice A8 x6.length u8, .slice none 0 0, .slice none 0 0] 4] rfl (by kernel_rfl) (s.cells (i := 2) rfl rfl rfl) ?_
  replace s := s.pushNil 27 1
  replace s := s.pushNil 3 1
  replace s := s.pick [5, 1, 0, 2] 6 rfl
  exact fun X h => vc rfl (h I2 A8 x6.length u8 cl5 none 0 0 [] none 0 0 [] A7 u7 _ s kk rfl rp2 rfl (RepL.nil (r := (Rp.slice (Rp.int .u8)))) rfl (RepL.nil (r := (Rp.int .i64))) hc2 e2)
theorem c112_1 {w1 w : World} {M I : Nat → Prop} {F : List It} (p0 : T_pack_Reader) (p1 : Int) (b1 : Nat) (A1 : Option Addr) (u1 : Nat) (hc1 : (p0.b.length ≤ u1 ∧ u1 ≤ 9223372036854775807)) (e1 : Elems (Rp.int .u8) I w A1 p0.b) (s : St w1 M I ((.blk b1 (.cells #[.slice A1 p0.b.length u1, .int .i64 p0.err, .bool p0.made] 118 (0, 0))) :: F) w) {r : (Int × T_pack_Reader)} (hf : g112_1 p0 p1 = some r) :
    Ret Try.prog 112 [.pointer (some ⟨b1, 0, none⟩), .int .i64 p1] w fun v wz => ∀ X : Value → World → Prop, (∀ (I' : Nat → Prop) (A2 : Option Addr) (u2 : Nat) (w' : World), St w1 M I' ((.blk b1 (.cells #[.slice A2 r.2.b.length u2, .int .i64 r.2.err, .bool r.2.made] 118 (0, 0))) :: F) w' → Kp I w I' w' → (r.2.b.length ≤ u2 ∧ u2 ≤ 9223372036854775807) → Elems (Rp.int .u8) I' w' A2 r.2.b → X (.int .u64 r.1) w') → X v wz := by
  have kk : Kp I w I w := Kp.refl
  unfold g112_1 at hf
  refine Ret.of Try.func112 rfl ?_
  refine WPK.seq ?_
  refine WPK.region ?_
  refine RW.seg hT 1 [] [] [.int .u64 0] [] (by kernel_rfl) (trivial) ?_
  refine RW.nil ?_
  refine WPK.seq ?_
  refine WPK.region ?_
  refine RW.seg hT 1 [] [] [.int .u64 0] [] (by kernel_rfl) (trivial) ?_
  refine RW.nil ?_
  refine WPK.seq ?_
  refine WPK.seq ?_
  refine WPK.region ?_
  refine RW.seg hT 2 [] [] [.pointer (some ⟨b1, 0, none⟩), .int .i64 p1] [] (by kernel_rfl) (trivial) ?_
  obtain ⟨x1, hx1, hf⟩ := bindS hf
  refine RW.op (by kernel_rfl) (OK.call' en115 (by kernel_rfl) (c115_1 (F := F) p0 p1 b1 A1 u1 hc1 e1 s hx1) ?_)
  intro X1 hX1
  refine fun _ _ hJ => hJ X1 ?_
  clear s
  intro I1 A3 u3 A4 u4 w2 s k1 hc2 e2 hc3 e3
  refine hX1 _ _ ?_
  replace e1 := e1.st k1
  replace kk := kk.trans k1
  refine RW.seg hT 2 [] [] [.int .i64 (x1.1.length : Int), .int .i64 0] [] (by kernel_rfl) (trivial) ?_
  refine RW.nil ?_
  refine WPK.block ?_
  refine WPK.loop' (J := fun n1 D1 ds wz => ∀ X : Kont, (∀ (x2 : Int) (x3 : Int), g112_1_l1 x1 n1 x2 x3 = some r → X [(D1.getD 0 undef), (D1.getD 1 undef), (D1.getD 2 undef), (D1.getD 3 undef), .int .u64 0, .int .u64 x2, (D1.getD 6 undef), (D1.getD 7 undef), (D1.getD 8 undef), (D1.getD 9 undef), .slice A3 x1.1.length u3, .int .i64 (x1.1.length : Int), .int .i64 x3, (D1.getD 13 undef), (D1.getD 14 undef), (D1.getD 15 undef), (D1.getD 16 undef), (D1.getD 17 undef), (D1.getD 18 undef), (D1.getD 19 undef), (D1.getD 20 undef), (D1.getD 21 undef), undef] [] w2) → X D1 ds wz) FUEL (fun X h => kc (by kernel_rfl) rfl (h 0 0 hf)) (fun _ _ _ hJ => hJ (fun _ _ _ => False) (by intro x2 x3 hf; exact noneS hf)) ?_
  intro X2 hX2
  refine fun n1 D1 _ _ hJ => hJ (X2 n1) ?_
  intro x2 x3 hf
  refine hX2 _ _ _ _ ?_
  replace hf : g112_1_l1B x1 (g112_1_l1 x1 n1) x2 x3 = some r := hf
  generalize hrec1 : g112_1_l1 x1 n1 = rec1 at hf
  unfold g112_1_l1B at hf
  refine WPK.seq ?_
  refine WPK.region ?_
  refine RW.seg hT 1 [] [] [.bool (decide (x3 < (x1.1.length : Int)))] [] (by kernel_rfl) (trivial) ?_
  refine RW.nil ?_
  refine WPK.seq ?_
  by_cases h1 : x3 < (x1.1.length : Int)
  have hf := iteT h1 hf
  refine WPK.condT (Eq.trans (b := .bool (decide (x3 < (x1.1.length : Int)))) (by kernel_rfl) (bo_t h1)) ?_
  refine WPK.skip ?_
  refine WPK.seq ?_
  refine WPK.block ?_
  refine WPK.seq ?_
  refine WPK.region ?_
  obtain ⟨x4, hx2, hf⟩ := bindS hf
  obtain ⟨h2, hx2⟩ := getS hx2
  obtain ⟨b2, o1, rfl⟩ := Elems.opn e2 hx2
  obtain ⟨cs1, hr1, ha1⟩ := Elems.get e2 hx2
  obtain rfl : cs1 = [.int .u8 x4] := hr1
  refine RW.seg hT 3 [.int .u8 x4] [] [.pointer (some ⟨b2, o1 + x3.toNat * 1, none⟩), .int .u8 x4, .int .u8 x4] [.idx x3 x1.1.length, .cell ⟨b2, o1 + x3.toNat * 1, none⟩ (.int .u8 x4)] (by kernel_rfl) (⟨h2, ha1 0 _ rfl⟩) ?_
  refine RW.nil ?_
  refine WPK.region ?_
  refine RW.seg hT 6 [undef] [] [.int .u64 x2, .int .u64 (shlI .u64 x2 8), .int .u8 x4, .int .u64 (IntKind.u64.wrap x4), .int .u64 (orI .u64 (shlI .u64 x2 8) (IntKind.u64.wrap x4)), .int .u64 (orI .u64 (shlI .u64 x2 8) (IntKind.u64.wrap x4))] [.nn 8] (by kernel_rfl) ((show (0 : Int) ≤ 8 by decide)) ?_
  refine RW.nil ?_
  refine WPK.region ?_
  refine RW.seg hT 2 [] [] [.int .i64 (IntKind.i64.wrap (x3 + 1)), .int .i64 (IntKind.i64.wrap (x3 + 1))] [] (by kernel_rfl) (trivial) ?_
  refine RW.nil ?_
  subst hrec1
  exact ⟨n1, Nat.le_refl _, fun X h => kc (by kernel_rfl) rfl (h (orI .u64 (shlI .u64 x2 8) (IntKind.u64.wrap x4)) (IntKind.i64.wrap (x3 + 1)) hf)⟩
  have hf := iteF h1 hf
  refine WPK.condF (Eq.trans (b := .bool (decide (x3 < (x1.1.length : Int)))) (by kernel_rfl) (bo_f h1)) ?_
  refine WPK.exit (blockQ.same ?_)
  refine WPK.seq ?_
  refine WPK.region ?_
  refine RW.seg hT 2 [] [] [.int .u64 x2, .int .u64 x2] [] (by kernel_rfl) (trivial) ?_
  refine RW.nil ?_
  refine WPK.ret (?_)
  obtain rfl := someS hf
  refine Fin.of (rs := [.tmp 4]) hT [] (.int .u64 x2) [] rfl (by kernel_rfl) (trivial) ?_
  exact fun X h => vc rfl (h I1 A4 u4 _ s kk hc3 e3)
theorem c101 {w1 w : World} {M I : Nat → Prop} {F : List It} (p0 : T_pack_Reader) (b1 : Nat) (A1 : Option Addr) (u1 : Nat) (hc1 : (p0.b.length ≤ u1 ∧ u1 ≤ 9223372036854775807)) (e1 : Elems (Rp.int .u8) I w A1 p0.b) (s : St w1 M I ((.blk b1 (.cells #[.slice A1 p0.b.length u1, .int .i64 p0.err, .bool p0.made] 118 (0, 0))) :: F) w) {r : (Int × T_pack_Reader)} (hf : g101 p0 = some r) :
    Ret Try.prog 101 [.pointer (some ⟨b1, 0, none⟩)] w fun v wz => ∀ X : Value → World → Prop, (∀ (I' : Nat → Prop) (A2 : Option Addr) (u2 : Nat) (w' : World), St w1 M I' ((.blk b1 (.cells #[.slice A2 r.2.b.length u2, .int .i64 r.2.err, .bool r.2.made] 118 (0, 0))) :: F) w' → Kp I w I' w' → (r.2.b.length ≤ u2 ∧ u2 ≤ 9223372036854775807) → Elems (Rp.int .u8) I' w' A2 r.2.b → X (.int .u16 r.1) w') → X v wz := by
  have kk : Kp I w I w := Kp.refl
  unfold g101 at hf
  refine Ret.of Try.func101 rfl ?_
  refine WPK.seq ?_
  refine WPK.region ?_
  refine RW.seg hT 1 [] [] [.int .u16 0] [] (by kernel_rfl) (trivial) ?_
  refine RW.nil ?_
  refine WPK.seq ?_
  refine WPK.region ?_
  refine RW.seg hT 1 [] [] [.pointer (some ⟨b1, 0, none⟩)] [] (by kernel_rfl) (trivial) ?_
  obtain ⟨x1, hx1, hf⟩ := bindS hf
  refine RW.op (by kernel_rfl) (OK.call' en112 (by kernel_rfl) (c112_1 (F := F) p0 2 b1 A1 u1 hc1 e1 s hx1) ?_)
  intro X1 hX1
  refine fun _ _ hJ => hJ X1 ?_
  clear s
  intro I1 A3 u3 w2 s k1 hc2 e2
  refine hX1 _ _ ?_
  replace e1 := e1.st k1
  replace kk := kk.trans k1
  refine RW.seg hT 2 [undef] [] [.int .u16 (IntKind.u16.wrap x1.1), .int .u16 (IntKind.u16.wrap x1.1)] [] (by kernel_rfl) (trivial) ?_
  refine RW.nil ?_
  refine WPK.ret (?_)
  obtain rfl := someS hf
  refine Fin.of (rs := [.tmp 2]) hT [] (.int .u16 (IntKind.u16.wrap x1.1)) [] rfl (by kernel_rfl) (trivial) ?_
  exact fun X h => vc rfl (h I1 A3 u3 _ s kk hc2 e2)
theorem c71 {w1 w : World} {M I : Nat → Prop} {F : List It} (p0 : T_pack_Reader) (b1 : Nat) (A1 : Option Addr) (n1 : Nat) (u1 : Nat) (cl1 : List Value) (hn1 : n1 = p0.b.length) (rp1 : RepL (Rp.int .u8) I w cl1 p0.b) (s : St w1 M I ((.blk b1 (.cells #[.slice A1 n1 u1, .int .i64 p0.err, .bool p0.made] 118 (0, 0))) :: (.sl (.slice A1 n1 u1) 5 1 n1 cl1) :: F) w) {r : (T_api_Node × T_pack_Reader)} (hf : g71 p0 = some r) :
    Ret Try.prog 71 [.pointer (some ⟨b1, 0, none⟩)] w fun v wz => ∀ X : Value → World → Prop, (∀ (I' : Nat → Prop) (A2 : Option Addr) (n2 : Nat) (u2 : Nat) (cl2 : List Value) (A3 : Option Addr) (n3 : Nat) (u3 : Nat) (cl3 : List Value) (A4 : Option Addr) (n4 : Nat) (u4 : Nat) (cl4 : List Value) (A5 : Option Addr) (u5 : Nat) (w' : World), St w1 M I' ((.sl (.slice A2 n2 u2) 48 2 n2 cl2) :: (.sl (.slice A3 n3 u3) 27 1 n3 cl3) :: (.sl (.slice A4 n4 u4) 3 1 n4 cl4) :: (.blk b1 (.cells #[.slice A5 r.2.b.length u5, .int .i64 r.2.err, .bool r.2.made] 118 (0, 0))) :: F) w' → Kp I w I' w' → n2 = r.1.Pairs.length → RepL rp_T_api_Pair I' w' cl2 r.1.Pairs → n3 = r.1.Keys.length → RepL (Rp.slice (Rp.int .u8)) I' w' cl3 r.1.Keys → n4 = r.1.Kids.length → RepL (Rp.int .i64) I' w' cl4 r.1.Kids → (r.2.b.length ≤ u5 ∧ u5 ≤ 9223372036854775807) → Elems (Rp.int .u8) I' w' A5 r.2.b → X (.agg #[.bool r.1.Leaf, .slice A2 n2 u2, .slice A3 n3 u3, .slice A4 n4 u4]) w') → X v wz := by
  have kk : Kp I w I w := Kp.refl
  unfold g71 at hf
  refine Ret.of Try.func71 rfl ?_
  refine WPK.seq ?_
  refine WPK.region ?_
  refine RW.op (by kernel_rfl) (OK.new hT (f := fun b => .pointer (some ⟨b, 0, none⟩)) (cs := [.bool false, .slice none 0 0, .slice none 0 0, .slice none 0 0]) (e := 26) (c := .tt) s (by kernel_rfl) trivial ?_)
  clear s
  rintro w2 b2 s k1 -
  replace rp1 := rp1.st k1
  replace kk := kk.trans k1
  refine RW.nil ?_
  refine WPK.seq ?_
  refine WPK.region ?_
  refine RW.seg hT 1 [] [] [.pointer (some ⟨b1, 0, none⟩)] [] (by kernel_rfl) (trivial) ?_
  replace s := s.pick [1, 2, 0] 3 rfl
  obtain ⟨x1, hx1, hf⟩ := bindS hf
  refine RW.op (by kernel_rfl) (OK.call' en99 (by kernel_rfl) (c99 (F := (.blk b2 (.cells #[.bool false, .slice none 0 0, .slice none 0 0, .slice none 0 0] 26 (0, 0))) :: F) p0 b1 A1 n1 u1 cl1 hn1 rp1 s hx1) ?_)
  intro X1 hX1
  refine fun _ _ hJ => hJ X1 ?_
  clear s
  intro I1 A6 u6 w3 s k2 hc1 e1
  refine hX1 _ _ ?_
  replace rp1 := rp1.st k2
  replace kk := kk.trans k2
  refine RW.seg hT 1 [] [] [.int .u8 x1.1] [] (by kernel_rfl) (trivial) ?_
  refine RW.nil ?_
  refine WPK.seq ?_
  refine WPK.region ?_
  refine RW.seg hT 1 [] [] [.pointer (some ⟨b1, 0, none⟩)] [] (by kernel_rfl) (trivial) ?_
  obtain ⟨x2, hx2, hf⟩ := bindS hf
  refine RW.op (by kernel_rfl) (OK.call' en101 (by kernel_rfl) (c101 (F := (.blk b2 (.cells #[.bool false, .slice none 0 0, .slice none 0 0, .slice none 0 0] 26 (0, 0))) :: F) x1.2 b1 A6 u6 hc1 e1 s hx2) ?_)
  intro X2 hX2
  refine fun _ _ hJ => hJ X2 ?_
  clear s
  intro I2 A7 u7 w4 s k3 hc2 e2
  refine hX2 _ _ ?_
  replace e1 := e1.st k3
  replace kk := kk.trans k3
  refine RW.seg hT 1 [undef] [] [.int .i64 (IntKind.i64.wrap x2.1)] [] (by kernel_rfl) (trivial) ?_
  refine RW.op (by kernel_rfl) (OK.new hT (f := fun b => .slice (some ⟨b, 0, none⟩) 1 1) (cs := [.int .i64 (IntKind.i64.wrap x2.1)]) (e := 3) (c := .tt) s (by kernel_rfl) trivial ?_)
  clear s
  rintro w5 b3 s k4 -
  replace e2 := e2.st k4
  replace kk := kk.trans k4
  have rp2 : RepL (Rp.int .i64) I2 w5 [.int .i64 (IntKind.i64.wrap x2.1)] ([IntKind.i64.wrap x2.1] : List Int) := RepL.cons (c := [.int .i64 (IntKind.i64.wrap x2.1)]) (d := []) (rfl) (RepL.nil)
  replace s : St w1 M I2 ((.sl (.slice (some ⟨b3, 0, none⟩) 1 1) 3 1 1 [.int .i64 (IntKind.i64.wrap x2.1)]) :: (.blk b1 (.cells #[.slice A7 x2.2.b.length u7, .int .i64 x2.2.err, .bool x2.2.made] 118 (0, 0))) :: (.blk b2 (.cells #[.bool false, .slice none 0 0, .slice none 0 0, .slice none 0 0] 26 (0, 0))) :: F) w5 := s.blkSl (i := 0) (n := 1) (c := 1) (size := 1) rfl rfl (Nat.le_refl _) (by decide)
  refine RW.seg hT 1 [] [] [.agg #[.bool false, .slice none 0 0, .slice none 0 0, .slice (some ⟨b3, 0, none⟩) 1 1]] [] (by kernel_rfl) (trivial) ?_
  refine RW.op (by kernel_rfl) (OK.new hT (f := fun b => .pointer (some ⟨b, 0, none⟩)) (cs := [.bool false, .slice none 0 0, .slice none 0 0, .slice none 0 0]) (e := 26) (c := .tt) s (by kernel_rfl) trivial ?_)
  clear s
  rintro w6 b4 s k5 -
  replace e2 := e2.st k5
  replace rp2 := rp2.st k5
  replace kk := kk.trans k5
  refine RW.op (by kernel_rfl) (OK.store hT (i := 0) (b := b4) (off := 0) (n := 4) (vs := [.bool false, .slice none 0 0, .slice none 0 0, .slice (some ⟨b3, 0, none⟩) 1 1]) (cs := [.bool false, .slice none 0 0, .slice none 0 0, .slice none 0 0]) (e := 26) s (by kernel_rfl) rfl rfl (flat_ok rfl) (Nat.le_of_ble_eq_true rfl) ?_)
  clear s
  rintro w7 s k6 -
  replace e2 := e2.st k6
  replace rp2 := rp2.st k6
  replace kk := kk.trans k6
  refine RW.nil ?_
  refine WPK.seq ?_
  refine WPK.cut' (Kn fun D1 ds wz => ∀ X : Kont, (∀ (I3 : Nat → Prop) (x3 : (List Int)) (x4 : Int) (x5 : Bool) (x6 : (List (List Int))) (x7 : (List Int)) (A8 : Option Addr) (u8 : Nat) (A9 : Option Addr) (u9 : Nat) (cl5 : List Value) (A10 : Option Addr) (u10 : Nat) (cl6 : List Value) (w' : World), g71_j1 x3 x4 x5 x6 x7 = some r → St w1 M I3 ((.blk b1 (.cells #[.slice A8 x3.length u8, .int .i64 x4, .bool x5] 118 (0, 0))) :: (.blk b4 (.cells #[.bool false, .slice none 0 0, .slice A9 x6.length u9, .slice A10 x7.length u10] 26 (0, 0))) :: (.sl (.slice A10 x7.length u10) 3 1 x7.length cl6) :: (.blk b2 (.cells #[.bool false, .slice none 0 0, .slice none 0 0, .slice none 0 0] 26 (0, 0))) :: (.sl (.slice A9 x6.length u9) 27 1 x6.length cl5) :: F) w' → Kp I w I3 w' → (x3.length ≤ u8 ∧ u8 ≤ 9223372036854775807) → Elems (Rp.int .u8) I3 w' A8 x3 → RepL (Rp.slice (Rp.int .u8)) I3 w' cl5 x6 → RepL (Rp.int .i64) I3 w' cl6 x7 → X [(D1.getD 0 undef), (D1.getD 1 undef), .pointer (some ⟨b2, 0, none⟩), (D1.getD 3 undef), .pointer (some ⟨b4, 0, none⟩), (D1.getD 5 undef), (D1.getD 6 undef), (D1.getD 7 undef), (D1.getD 8 undef), (D1.getD 9 undef), (D1.getD 10 undef), (D1.getD 11 undef), (D1.getD 12 undef), (D1.getD 13 undef), (D1.getD 14 undef), (D1.getD 15 undef), (D1.getD 16 undef), (D1.getD 17 undef), (D1.getD 18 undef), (D1.getD 19 undef), (D1.getD 20 undef), (D1.getD 21 undef), (D1.getD 22 undef), (D1.getD 23 undef), (D1.getD 24 undef), (D1.getD 25 undef), (D1.getD 26 undef), (D1.getD 27 undef), (D1.getD 28 undef), (D1.getD 29 undef), (D1.getD 30 undef), (D1.getD 31 undef), (D1.getD 32 undef), (D1.getD 33 undef), undef] [] w') → X D1 ds wz) ?_ ?_
  intro X3 hX3
  refine fun D1 _ _ hJ => hJ X3 ?_
  clear s
  intro I3 x3 x4 x5 x6 x7 A8 u8 A9 u9 cl5 A10 u10 cl6 w8 hf s kk hc3 e3 rp3 rp4
  refine hX3 _ _ _ ?_
  unfold g71_j1 at hf
  refine WPK.seq ?_
  refine WPK.region ?_
  refine RW.seg hT 1 [.agg #[.bool false, .slice none 0 0, .slice A9 x6.length u9, .slice A10 x7.length u10]] [] [.agg #[.bool false, .slice none 0 0, .slice A9 x6.length u9, .slice A10 x7.length u10]] [.cells ⟨b4, 0, none⟩ [.bool false, .slice none 0 0, .slice A9 x6.length u9, .slice A10 x7.length u10] 4] (by kernel_rfl) (s.cells (i := 1) rfl rfl rfl) ?_
  refine RW.op (by kernel_rfl) (OK.store hT (i := 3) (b := b2) (off := 0) (n := 4) (vs := [.bool false, .slice none 0 0, .slice A9 x6.length u9, .slice A10 x7.length u10]) (cs := [.bool false, .slice none 0 0, .slice none 0 0, .slice none 0 0]) (e := 26) s (by kernel_rfl) rfl rfl (flat_ok rfl) (Nat.le_of_ble_eq_true rfl) ?_)
  clear s
  rintro w9 s k7 -
  replace e3 := e3.st k7
  replace rp4 := rp4.st k7
  replace rp3 := rp3.st k7
  replace kk := kk.trans k7
  refine RW.nil ?_
  refine WPK.ret (?_)
  obtain rfl := someS hf
  refine Fin.of (rs := [.cell 2 26]) hT [.agg #[.bool false, .slice none 0 0, .slice A9 x6.length u9, .slice A10 x7.length u10]] (.agg #[.bool false, .slice none 0 0, .slice A9 x6.length u9, .slice A10 x7.length u10]) [.cells ⟨b2, 0, none⟩ [.bool false, .slice none 0 0, .slice A9 x6.length u9, .slice A10 x7.length u10] 4] rfl (by kernel_rfl) (s.cells (i := 3) rfl rfl rfl) ?_
  replace s := s.pushNil 48 2
  replace s := s.pick [0, 5, 3, 1] 6 rfl
  exact fun X h => vc rfl (h I3 none 0 0 [] A9 x6.length u9 cl5 A10 x7.length u10 cl6 A8 u8 _ s kk rfl (RepL.nil (r := rp_T_api_Pair)) rfl rp3 rfl rp4 hc3 e3)
  refine WPK.seq ?_
  refine WPK.region ?_
  refine RW.seg hT 2 [] [] [.int .u8 x1.1, .int .u8 0] [] (by kernel_rfl) (trivial) ?_
  refine RW.nil ?_
  refine WPK.block ?_
  replace s := s.pushNil 27 1
  replace s := s.pick [1, 2, 3, 4, 0] 5 rfl
  refine WPK.loop' (J := fun n5 D2 ds wz => ∀ X : Kont, (∀ (I4 : Nat → Prop) (x8 : Int) (x9 : (List (List Int))) (x10 : (List Int)) (x11 : (List Int)) (x12 : Int) (x13 : Bool) (A11 : Option Addr) (u11 : Nat) (cl7 : List Value) (A12 : Option Addr) (u12 : Nat) (cl8 : List Value) (A13 : Option Addr) (u13 : Nat) (w' : World), g71_l2 x1 n5 x8 x9 x10 x11 x12 x13 = some r → St w1 M I4 ((.blk b4 (.cells #[.bool false, .slice none 0 0, .slice A11 x9.length u11, .slice A12 x10.length u12] 26 (0, 0))) :: (.sl (.slice A12 x10.length u12) 3 1 x10.length cl8) :: (.blk b1 (.cells #[.slice A13 x11.length u13, .int .i64 x12, .bool x13] 118 (0, 0))) :: (.blk b2 (.cells #[.bool false, .slice none 0 0, .slice none 0 0, .slice none 0 0] 26 (0, 0))) :: (.sl (.slice A11 x9.length u11) 27 1 x9.length cl7) :: F) w' → Kp I w I4 w' → RepL (Rp.slice (Rp.int .u8)) I4 w' cl7 x9 → RepL (Rp.int .i64) I4 w' cl8 x10 → (x11.length ≤ u13 ∧ u13 ≤ 9223372036854775807) → Elems (Rp.int .u8) I4 w' A13 x11 → X [.pointer (some ⟨b1, 0, none⟩), (D2.getD 1 undef), .pointer (some ⟨b2, 0, none⟩), (D2.getD 3 undef), .pointer (some ⟨b4, 0, none⟩), (D2.getD 5 undef), (D2.getD 6 undef), (D2.getD 7 undef), (D2.getD 8 undef), (D2.getD 9 undef), (D2.getD 10 undef), (D2.getD 11 undef), .int .u8 x1.1, .int .u8 x8, (D2.getD 14 undef), (D2.getD 15 undef), (D2.getD 16 undef), (D2.getD 17 undef), (D2.getD 18 undef), (D2.getD 19 undef), (D2.getD 20 undef), (D2.getD 21 undef), (D2.getD 22 undef), (D2.getD 23 undef), (D2.getD 24 undef), (D2.getD 25 undef), (D2.getD 26 undef), (D2.getD 27 undef), (D2.getD 28 undef), (D2.getD 29 undef), (D2.getD 30 undef), (D2.getD 31 undef), (D2.getD 32 undef), (D2.getD 33 undef), undef] [] w') → X D2 ds wz) FUEL (fun X h => kc (by kernel_rfl) rfl (h I2 0 ([] : List (List Int)) ([IntKind.i64.wrap x2.1] : List Int) x2.2.b x2.2.err x2.2.made none 0 [] (some ⟨b3, 0, none⟩) 1 [.int .i64 (IntKind.i64.wrap x2.1)] A7 u7 _ hf s kk (RepL.nil (r := (Rp.slice (Rp.int .u8)))) rp2 hc2 e2)) (fun _ _ _ hJ => hJ (fun _ _ _ => False) (by intro I4 x8 x9 x10 x11 x12 x13 A11 u11 cl7 A12 u12 cl8 A13 u13 w10 hf s kk rp5 rp6 hc4 e4; exact noneS hf)) ?_
  intro X4 hX4
  refine fun n5 D2 _ _ hJ => hJ (X4 n5) ?_
  clear s
  intro I4 x8 x9 x10 x11 x12 x13 A11 u11 cl7 A12 u12 cl8 A13 u13 w10 hf s kk rp5 rp6 hc4 e4
  refine hX4 _ _ _ _ ?_
  replace hf : g71_l2B x1 (g71_l2 x1 n5) x8 x9 x10 x11 x12 x13 = some r := hf
  generalize hrec1 : g71_l2 x1 n5 = rec1 at hf
  unfold g71_l2B at hf
  refine WPK.seq ?_
  refine WPK.region ?_
  refine RW.seg hT 1 [] [] [.bool (decide (x8 < x1.1))] [] (by kernel_rfl) (trivial) ?_
  refine RW.nil ?_
  refine WPK.seq ?_
  by_cases h1 : x8 < x1.1
  have hf := iteT h1 hf
  refine WPK.condT (Eq.trans (b := .bool (decide (x8 < x1.1))) (by kernel_rfl) (bo_t h1)) ?_
  refine WPK.skip ?_
  refine WPK.seq ?_
  refine WPK.block ?_
  refine WPK.seq ?_
  refine WPK.cut' (Kn fun D3 ds wz => ∀ X : Kont, (∀ (I5 : Nat → Prop) (x14 : (List Int)) (x15 : (List (List Int))) (x16 : (List (List Int))) (x17 : (List Int)) (x18 : Int) (x19 : Bool) (A14 : Option Addr) (u14 : Nat) (A15 : Option Addr) (u15 : Nat) (cl9 : List Value) (A16 : Option Addr) (u16 : Nat) (cl10 : List Value) (A17 : Option Addr) (u17 : Nat) (w' : World), g71_j3 x8 x10 rec1 x14 x15 x16 x17 x18 x19 = some r → St w1 M I5 ((.sl (.slice A15 x15.length u15) 27 1 x15.length cl9) :: (.blk b1 (.cells #[.slice A17 x17.length u17, .int .i64 x18, .bool x19] 118 (0, 0))) :: (.blk b4 (.cells #[.bool false, .slice none 0 0, .slice A16 x16.length u16, .slice A12 x10.length u12] 26 (0, 0))) :: (.sl (.slice A12 x10.length u12) 3 1 x10.length cl8) :: (.blk b2 (.cells #[.bool false, .slice none 0 0, .slice none 0 0, .slice none 0 0] 26 (0, 0))) :: (.sl (.slice A16 x16.length u16) 27 1 x16.length cl10) :: F) w' → Kp I w I5 w' → (x14.length ≤ u14 ∧ u14 ≤ 9223372036854775807) → Elems (Rp.int .u8) I5 w' A14 x14 → RepL (Rp.slice (Rp.int .u8)) I5 w' cl9 x15 → RepL (Rp.slice (Rp.int .u8)) I5 w' cl10 x16 → (x17.length ≤ u17 ∧ u17 ≤ 9223372036854775807) → Elems (Rp.int .u8) I5 w' A17 x17 → RepL (Rp.int .i64) I5 w' cl8 x10 → X [.pointer (some ⟨b1, 0, none⟩), (D3.getD 1 undef), .pointer (some ⟨b2, 0, none⟩), (D3.getD 3 undef), .pointer (some ⟨b4, 0, none⟩), (D3.getD 5 undef), (D3.getD 6 undef), (D3.getD 7 undef), (D3.getD 8 undef), (D3.getD 9 undef), (D3.getD 10 undef), (D3.getD 11 undef), .int .u8 x1.1, .int .u8 x8, .bool (decide (x8 < x1.1)), .pointer (some ⟨b4, 2, none⟩), (.slice A11 x9.length u11), .pointer (some ⟨b1, 0, none⟩), .slice A14 x14.length u14, .slice A15 x15.length u15, .slice A16 x16.length u16, .pointer (some ⟨b4, 2, none⟩), (D2.getD 22 undef), (D2.getD 23 undef), (D2.getD 24 undef), (D2.getD 25 undef), (D2.getD 26 undef), (D2.getD 27 undef), (D2.getD 28 undef), (D2.getD 29 undef), (D2.getD 30 undef), (D2.getD 31 undef), (D2.getD 32 undef), (D2.getD 33 undef), undef] [] w') → X D3 ds wz) ?_ ?_
  intro X5 hX5
  refine fun D3 _ _ hJ => hJ X5 ?_
  clear s
  intro I5 x14 x15 x16 x17 x18 x19 A14 u14 A15 u15 cl9 A16 u16 cl10 A17 u17 w11 hf s kk hc5 e5 rp7 rp8 hc6 e6 rp6
  refine hX5 _ _ _ ?_
  unfold g71_j3 at hf
  refine WPK.seq ?_
  have e5S1 := e5
  have e6S1 := e6
  have rp7S1 := rp7
  have rp6S1 := rp6
  have rp8S1 := rp8
  have kS1 : Kp I5 w11 I5 w11 := Kp.refl
  refine WPK.drawM (fun w' => ∃ I' : Nat → Prop, St w1 M I' ((.sl (.slice A15 x15.length u15) 27 1 x15.length cl9) :: (.blk b2 (.cells #[.bool false, .slice none 0 0, .slice none 0 0, .slice none 0 0] 26 (0, 0))) :: (.sl (.slice A16 x16.length u16) 27 1 x16.length cl10) :: F) w' ∧ Kp I5 w11 I' w') 9 [0, 1, 0, 4, 12, 28, 63, 127, 255] (by kernel_rfl) (by kernel_rfl) ?_
  intro ht1 w12 hd1
  have k8 := Kp.dr s hd1
  replace s := s.dr hd1
  replace e5 := e5.st k8
  replace e6 := e6.st k8
  replace rp7 := rp7.st k8
  replace rp6 := rp6.st k8
  replace rp8 := rp8.st k8
  replace kk := kk.trans k8
  replace kS1 := kS1.trans k8
  refine RD.segM hT ht1 (by kernel_rfl) [0, 2] [] [] [.pointer (some ⟨b4, 3, none⟩), .pointer (some ⟨b1, 0, none⟩)] [] (by kernel_rfl) (fun _ _ => trivial) ⟨_, s.pick [0, 4, 5] 6 rfl, kS1⟩ ?_
  obtain ⟨x20, hx3, hf⟩ := bindS hf
  refine RD.ways [1, 3] (by kernel_rfl) (List.forall_mem_cons.2 ⟨?_, List.forall_mem_cons.2 ⟨?_, fun _ h => nomatch h⟩⟩)
  refine RWay.op rfl (by kernel_rfl) (OK.pure hT (ld := (.slice A12 x10.length u12)) (v := .slice A12 x10.length u12) (c := .cell ⟨b4, 3, none⟩ (.slice A12 x10.length u12)) (by kernel_rfl) (s.cell (i := 2) (off := 3) rfl rfl) ?_)
  refine ⟨fun _ => ⟨_, s.pick [0, 4, 5] 6 rfl, kS1⟩, RD.fold ?_⟩
  replace s := s.pick [1, 0, 2, 3, 4, 5] 6 rfl
  refine RD.op (i := 3) rfl (by kernel_rfl) (by kernel_rfl) (OK.call' en101 (by kernel_rfl) (c101 (F := (.sl (.slice A15 x15.length u15) 27 1 x15.length cl9) :: (.blk b4 (.cells #[.bool false, .slice none 0 0, .slice A16 x16.length u16, .slice A12 x10.length u12] 26 (0, 0))) :: (.sl (.slice A12 x10.length u12) 3 1 x10.length cl8) :: (.blk b2 (.cells #[.bool false, .slice none 0 0, .slice none 0 0, .slice none 0 0] 26 (0, 0))) :: (.sl (.slice A16 x16.length u16) 27 1 x16.length cl10) :: F) (T_pack_Reader.mk x17 x18 x19) b1 A17 u17 hc6 e6 s hx3) ?_)
  intro X6 hX6
  refine fun _ _ hJ => hJ X6 ?_
  clear s
  intro I6 A18 u18 w13 s k9 hc7 e7
  refine hX6 _ _ ?_
  replace e5 := e5.st k9
  replace e6 := e6.st k9
  replace rp7 := rp7.st k9
  replace rp6 := rp6.st k9
  replace rp8 := rp8.st k9
  replace kk := kk.trans k9
  replace kS1 := kS1.trans k9
  refine ⟨fun _ => ⟨_, s.pick [1, 4, 5] 6 rfl, kS1⟩, RD.fold ?_⟩
  refine RD.segM hT ht1 (by kernel_rfl) [4] [undef] [] [.int .i64 (IntKind.i64.wrap x20.1)] [] (by kernel_rfl) (fun _ _ => trivial) ⟨_, s.pick [1, 4, 5] 6 rfl, kS1⟩ ?_
  refine RD.op (i := 5) rfl (by kernel_rfl) (by kernel_rfl) (OK.new hT (f := fun b => .slice (some ⟨b, 0, none⟩) 1 1) (cs := [.int .i64 (IntKind.i64.wrap x20.1)]) (e := 3) (c := .tt) s (by kernel_rfl) trivial ?_)
  clear s
  rintro w14 b5 s k10 -
  replace e5 := e5.st k10
  replace e7 := e7.st k10
  replace rp7 := rp7.st k10
  replace rp6 := rp6.st k10
  replace rp8 := rp8.st k10
  replace kk := kk.trans k10
  replace kS1 := kS1.trans k10
  have rp9 : RepL (Rp.int .i64) I6 w14 [.int .i64 (IntKind.i64.wrap x20.1)] ([IntKind.i64.wrap x20.1] : List Int) := RepL.cons (c := [.int .i64 (IntKind.i64.wrap x20.1)]) (d := []) (rfl) (RepL.nil)
  replace s : St w1 M I6 ((.sl (.slice (some ⟨b5, 0, none⟩) 1 1) 3 1 1 [.int .i64 (IntKind.i64.wrap x20.1)]) :: (.blk b1 (.cells #[.slice A18 x20.2.b.length u18, .int .i64 x20.2.err, .bool x20.2.made] 118 (0, 0))) :: (.sl (.slice A15 x15.length u15) 27 1 x15.length cl9) :: (.blk b4 (.cells #[.bool false, .slice none 0 0, .slice A16 x16.length u16, .slice A12 x10.length u12] 26 (0, 0))) :: (.sl (.slice A12 x10.length u12) 3 1 x10.length cl8) :: (.blk b2 (.cells #[.bool false, .slice none 0 0, .slice none 0 0, .slice none 0 0] 26 (0, 0))) :: (.sl (.slice A16 x16.length u16) 27 1 x16.length cl10) :: F) w14 := s.blkSl (i := 0) (n := 1) (c := 1) (size := 1) rfl rfl (Nat.le_refl _) (by decide)
  refine ⟨fun _ => ⟨_, s.pick [2, 5, 6] 7 rfl, kS1⟩, RD.fold ?_⟩
  have hs1 := St.src s (i := 0) rfl rfl rp9
  have rq1 := rp9
  obtain ⟨x21, hx4, hf⟩ := bindS hf
  refine RD.op (i := 6) rfl (by kernel_rfl) (by kernel_rfl) (OK.app hT (r := (Rp.int .i64)) (i := 4) (t := 24) (e := 3) (size := 1) (bytes := 8) (c := u12) (n := x10.length) (m := 1) s (by kernel_rfl) rfl rfl rfl rfl rfl (by decide) rfl rfl rfl rfl rp6 hs1 rq1 flat_int rfl hx4 ?_)
  clear s
  rintro A19 u19 cl11 w15 s k11 rp10
  replace e5 := e5.st k11
  replace e7 := e7.st k11
  replace rp9 := rp9.st k11
  replace rp7 := rp7.st k11
  replace rp6 := rp6.st k11
  replace rp8 := rp8.st k11
  replace kk := kk.trans k11
  replace kS1 := kS1.trans k11
  refine ⟨fun _ => ⟨_, s.pick [2, 5, 6] 7 rfl, kS1⟩, RD.fold ?_⟩
  refine RD.segM hT ht1 (by kernel_rfl) [7] [] [] [.pointer (some ⟨b4, 3, none⟩)] [] (by kernel_rfl) (fun _ _ => trivial) ⟨_, s.pick [2, 5, 6] 7 rfl, kS1⟩ ?_
  refine RD.op (i := 8) rfl (by kernel_rfl) (by kernel_rfl) (OK.store hT (i := 3) (b := b4) (off := 3) (n := 1) (vs := [.slice A19 x21.length u19]) (cs := [.bool false, .slice none 0 0, .slice A16 x16.length u16, (.slice A12 x10.length u12)]) (e := 26) s (by kernel_rfl) rfl rfl (flat_ok rfl) (Nat.le_of_ble_eq_true rfl) ?_)
  clear s
  rintro w16 s k12 -
  replace e5 := e5.st k12
  replace e7 := e7.st k12
  replace rp9 := rp9.st k12
  replace rp7 := rp7.st k12
  replace rp10 := rp10.st k12
  replace rp8 := rp8.st k12
  replace kk := kk.trans k12
  replace kS1 := kS1.trans k12
  refine ⟨fun _ => ⟨_, s.pick [2, 5, 6] 7 rfl, kS1⟩, RD.fold ?_⟩
  refine RD.done (by kernel_rfl) ?_
  refine WPK.seq ?_
  refine WPK.region ?_
  refine RW.seg hT 1 [] [] [.pointer (some ⟨b1, 0, none⟩)] [] (by kernel_rfl) (trivial) ?_
  replace s := s.pick [1, 0, 2, 3, 4, 5, 6] 7 rfl
  obtain ⟨x22, hx5, hf⟩ := bindS hf
  refine RW.op (by kernel_rfl) (OK.call' en72 (by kernel_rfl) (c72 (F := (.sl (.slice (some ⟨b5, 0, none⟩) 1 1) 3 1 1 [.int .i64 (IntKind.i64.wrap x20.1)]) :: (.sl (.slice A15 x15.length u15) 27 1 x15.length cl9) :: (.blk b4 (.cells #[.bool false, .slice none 0 0, .slice A16 x16.length u16, .slice A19 x21.length u19] 26 (0, 0))) :: (.sl (.slice A19 x21.length u19) 3 1 x21.length cl11) :: (.blk b2 (.cells #[.bool false, .slice none 0 0, .slice none 0 0, .slice none 0 0] 26 (0, 0))) :: (.sl (.slice A16 x16.length u16) 27 1 x16.length cl10) :: F) x20.2 b1 A18 u18 hc7 e7 s hx5) ?_)
  intro X7 hX7
  refine fun _ _ hJ => hJ X7 ?_
  clear s
  intro I7 w17 s k13
  refine hX7 _ _ ?_
  replace e5 := e5.st k13
  replace e7 := e7.st k13
  replace rp9 := rp9.st k13
  replace rp7 := rp7.st k13
  replace rp10 := rp10.st k13
  replace rp8 := rp8.st k13
  replace kk := kk.trans k13
  refine RW.seg hT 1 [] [(32, .bool (decide (x22 ≠ 0)))] [.bool (decide (x22 ≠ 0))] [.veq (.bool (x22 != 0)) (.bool (decide (x22 ≠ 0)))] (by kernel_rfl) (ne_v) ?_
  refine RW.nil ?_
  by_cases h2 : x22 ≠ 0
  have hf := iteT h2 hf
  refine WPK.condT (Eq.trans (b := .bool (decide (x22 ≠ 0))) (by kernel_rfl) (bo_t h2)) ?_
  refine WPK.exit (blockQ.other rfl (blockQ.same ?_))
  replace s := s.pick [0, 3, 4, 5, 6] 7 rfl
  exact fun X h => kc (by kernel_rfl) rfl (h I7 x20.2.b x20.2.err x20.2.made x16 x21 A18 u18 A16 u16 cl10 A19 u19 cl11 _ hf s kk hc7 e7 rp8 rp10)
  have hf := iteF h2 hf
  refine WPK.condF (Eq.trans (b := .bool (decide (x22 ≠ 0))) (by kernel_rfl) (bo_f h2)) ?_
  refine WPK.skip ?_
  refine WPK.region ?_
  refine RW.seg hT 2 [] [] [.int .u8 (IntKind.u8.wrap (x8 + 1)), .int .u8 (IntKind.u8.wrap (x8 + 1))] [] (by kernel_rfl) (trivial) ?_
  refine RW.nil ?_
  subst hrec1
  replace s := s.pick [3, 4, 0, 5, 6] 7 rfl
  exact ⟨n5, Nat.le_refl _, fun X h => kc (by kernel_rfl) rfl (h I7 (IntKind.u8.wrap (x8 + 1)) x16 x21 x20.2.b x20.2.err x20.2.made A16 u16 cl10 A19 u19 cl11 A18 u18 _ hf s kk rp8 rp10 hc7 e7)⟩
  replace s := s.pick [1, 0, 2, 3, 4, 5] 6 rfl
  refine RWay.op rfl (by kernel_rfl) (OK.call' en101 (by kernel_rfl) (c101 (F := (.sl (.slice A15 x15.length u15) 27 1 x15.length cl9) :: (.blk b4 (.cells #[.bool false, .slice none 0 0, .slice A16 x16.length u16, .slice A12 x10.length u12] 26 (0, 0))) :: (.sl (.slice A12 x10.length u12) 3 1 x10.length cl8) :: (.blk b2 (.cells #[.bool false, .slice none 0 0, .slice none 0 0, .slice none 0 0] 26 (0, 0))) :: (.sl (.slice A16 x16.length u16) 27 1 x16.length cl10) :: F) (T_pack_Reader.mk x17 x18 x19) b1 A17 u17 hc6 e6 s hx3) ?_)
  intro X8 hX8
  refine fun _ _ hJ => hJ X8 ?_
  clear s
  intro I8 A20 u20 w18 s k14 hc8 e8
  refine hX8 _ _ ?_
  replace e5 := e5.st k14
  replace e6 := e6.st k14
  replace rp7 := rp7.st k14
  replace rp6 := rp6.st k14
  replace rp8 := rp8.st k14
  replace kk := kk.trans k14
  replace kS1 := kS1.trans k14
  refine ⟨fun _ => ⟨_, s.pick [1, 4, 5] 6 rfl, kS1⟩, RD.fold ?_⟩
  refine RD.segM hT ht1 (by kernel_rfl) [4] [undef] [] [.int .i64 (IntKind.i64.wrap x20.1)] [] (by kernel_rfl) (fun _ _ => trivial) ⟨_, s.pick [1, 4, 5] 6 rfl, kS1⟩ ?_
  refine RD.ways [1, 5] (by kernel_rfl) (List.forall_mem_cons.2 ⟨?_, List.forall_mem_cons.2 ⟨?_, fun _ h => nomatch h⟩⟩)
  refine RWay.op rfl (by kernel_rfl) (OK.pure hT (ld := (.slice A12 x10.length u12)) (v := .slice A12 x10.length u12) (c := .cell ⟨b4, 3, none⟩ (.slice A12 x10.length u12)) (by kernel_rfl) (s.cell (i := 2) (off := 3) rfl rfl) ?_)
  refine ⟨fun _ => ⟨_, s.pick [1, 4, 5] 6 rfl, kS1⟩, RD.fold ?_⟩
  refine RD.op (i := 5) rfl (by kernel_rfl) (by kernel_rfl) (OK.new hT (f := fun b => .slice (some ⟨b, 0, none⟩) 1 1) (cs := [.int .i64 (IntKind.i64.wrap x20.1)]) (e := 3) (c := .tt) s (by kernel_rfl) trivial ?_)
  clear s
  rintro w19 b6 s k15 -
  replace e5 := e5.st k15
  replace e8 := e8.st k15
  replace rp7 := rp7.st k15
  replace rp6 := rp6.st k15
  replace rp8 := rp8.st k15
  replace kk := kk.trans k15
  replace kS1 := kS1.trans k15
  have rp11 : RepL (Rp.int .i64) I8 w19 [.int .i64 (IntKind.i64.wrap x20.1)] ([IntKind.i64.wrap x20.1] : List Int) := RepL.cons (c := [.int .i64 (IntKind.i64.wrap x20.1)]) (d := []) (rfl) (RepL.nil)
  replace s : St w1 M I8 ((.sl (.slice (some ⟨b6, 0, none⟩) 1 1) 3 1 1 [.int .i64 (IntKind.i64.wrap x20.1)]) :: (.blk b1 (.cells #[.slice A20 x20.2.b.length u20, .int .i64 x20.2.err, .bool x20.2.made] 118 (0, 0))) :: (.sl (.slice A15 x15.length u15) 27 1 x15.length cl9) :: (.blk b4 (.cells #[.bool false, .slice none 0 0, .slice A16 x16.length u16, .slice A12 x10.length u12] 26 (0, 0))) :: (.sl (.slice A12 x10.length u12) 3 1 x10.length cl8) :: (.blk b2 (.cells #[.bool false, .slice none 0 0, .slice none 0 0, .slice none 0 0] 26 (0, 0))) :: (.sl (.slice A16 x16.length u16) 27 1 x16.length cl10) :: F) w19 := s.blkSl (i := 0) (n := 1) (c := 1) (size := 1) rfl rfl (Nat.le_refl _) (by decide)
  refine ⟨fun _ => ⟨_, s.pick [2, 5, 6] 7 rfl, kS1⟩, RD.fold ?_⟩
  have hs2 := St.src s (i := 0) rfl rfl rp11
  have rq2 := rp11
  obtain ⟨x23, hx6, hf⟩ := bindS hf
  refine RD.op (i := 6) rfl (by kernel_rfl) (by kernel_rfl) (OK.app hT (r := (Rp.int .i64)) (i := 4) (t := 24) (e := 3) (size := 1) (bytes := 8) (c := u12) (n := x10.length) (m := 1) s (by kernel_rfl) rfl rfl rfl rfl rfl (by decide) rfl rfl rfl rfl rp6 hs2 rq2 flat_int rfl hx6 ?_)
  clear s
  rintro A21 u21 cl12 w20 s k16 rp12
  replace e5 := e5.st k16
  replace e8 := e8.st k16
  replace rp11 := rp11.st k16
  replace rp7 := rp7.st k16
  replace rp6 := rp6.st k16
  replace rp8 := rp8.st k16
  replace kk := kk.trans k16
  replace kS1 := kS1.trans k16
  refine ⟨fun _ => ⟨_, s.pick [2, 5, 6] 7 rfl, kS1⟩, RD.fold ?_⟩
  refine RD.segM hT ht1 (by kernel_rfl) [7] [] [] [.pointer (some ⟨b4, 3, none⟩)] [] (by kernel_rfl) (fun _ _ => trivial) ⟨_, s.pick [2, 5, 6] 7 rfl, kS1⟩ ?_
  refine RD.op (i := 8) rfl (by kernel_rfl) (by kernel_rfl) (OK.store hT (i := 3) (b := b4) (off := 3) (n := 1) (vs := [.slice A21 x23.length u21]) (cs := [.bool false, .slice none 0 0, .slice A16 x16.length u16, (.slice A12 x10.length u12)]) (e := 26) s (by kernel_rfl) rfl rfl (flat_ok rfl) (Nat.le_of_ble_eq_true rfl) ?_)
  clear s
  rintro w21 s k17 -
  replace e5 := e5.st k17
  replace e8 := e8.st k17
  replace rp11 := rp11.st k17
  replace rp7 := rp7.st k17
  replace rp12 := rp12.st k17
  replace rp8 := rp8.st k17
  replace kk := kk.trans k17
  replace kS1 := kS1.trans k17
  refine ⟨fun _ => ⟨_, s.pick [2, 5, 6] 7 rfl, kS1⟩, RD.fold ?_⟩
  refine RD.done (by kernel_rfl) ?_
  refine WPK.seq ?_
  refine WPK.region ?_
  refine RW.seg hT 1 [] [] [.pointer (some ⟨b1, 0, none⟩)] [] (by kernel_rfl) (trivial) ?_
  replace s := s.pick [1, 0, 2, 3, 4, 5, 6] 7 rfl
  obtain ⟨x24, hx7, hf⟩ := bindS hf
  refine RW.op (by kernel_rfl) (OK.call' en72 (by kernel_rfl) (c72 (F := (.sl (.slice (some ⟨b6, 0, none⟩) 1 1) 3 1 1 [.int .i64 (IntKind.i64.wrap x20.1)]) :: (.sl (.slice A15 x15.length u15) 27 1 x15.length cl9) :: (.blk b4 (.cells #[.bool false, .slice none 0 0, .slice A16 x16.length u16, .slice A21 x23.length u21] 26 (0, 0))) :: (.sl (.slice A21 x23.length u21) 3 1 x23.length cl12) :: (.blk b2 (.cells #[.bool false, .slice none 0 0, .slice none 0 0, .slice none 0 0] 26 (0, 0))) :: (.sl (.slice A16 x16.length u16) 27 1 x16.length cl10) :: F) x20.2 b1 A20 u20 hc8 e8 s hx7) ?_)
  intro X9 hX9
  refine fun _ _ hJ => hJ X9 ?_
  clear s
  intro I9 w22 s k18
  refine hX9 _ _ ?_
  replace e5 := e5.st k18
  replace e8 := e8.st k18
  replace rp11 := rp11.st k18
  replace rp7 := rp7.st k18
  replace rp12 := rp12.st k18
  replace rp8 := rp8.st k18
  replace kk := kk.trans k18
  refine RW.seg hT 1 [] [(32, .bool (decide (x24 ≠ 0)))] [.bool (decide (x24 ≠ 0))] [.veq (.bool (x24 != 0)) (.bool (decide (x24 ≠ 0)))] (by kernel_rfl) (ne_v) ?_
  refine RW.nil ?_
  by_cases h3 : x24 ≠ 0
  have hf := iteT h3 hf
  refine WPK.condT (Eq.trans (b := .bool (decide (x24 ≠ 0))) (by kernel_rfl) (bo_t h3)) ?_
  refine WPK.exit (blockQ.other rfl (blockQ.same ?_))
  replace s := s.pick [0, 3, 4, 5, 6] 7 rfl
  exact fun X h => kc (by kernel_rfl) rfl (h I9 x20.2.b x20.2.err x20.2.made x16 x23 A20 u20 A16 u16 cl10 A21 u21 cl12 _ hf s kk hc8 e8 rp8 rp12)
  have hf := iteF h3 hf
  refine WPK.condF (Eq.trans (b := .bool (decide (x24 ≠ 0))) (by kernel_rfl) (bo_f h3)) ?_
  refine WPK.skip ?_
  refine WPK.region ?_
  refine RW.seg hT 2 [] [] [.int .u8 (IntKind.u8.wrap (x8 + 1)), .int .u8 (IntKind.u8.wrap (x8 + 1))] [] (by kernel_rfl) (trivial) ?_
  refine RW.nil ?_
  subst hrec1
  replace s := s.pick [3, 4, 0, 5, 6] 7 rfl
  exact ⟨n5, Nat.le_refl _, fun X h => kc (by kernel_rfl) rfl (h I9 (IntKind.u8.wrap (x8 + 1)) x16 x23 x20.2.b x20.2.err x20.2.made A16 u16 cl10 A21 u21 cl12 A20 u20 _ hf s kk rp8 rp12 hc8 e8)⟩
  refine RWay.op rfl (by kernel_rfl) (OK.new hT (f := fun b => .slice (some ⟨b, 0, none⟩) 1 1) (cs := [.int .i64 (IntKind.i64.wrap x20.1)]) (e := 3) (c := .tt) s (by kernel_rfl) trivial ?_)
  clear s
  rintro w19 b6 s k15 -
  replace e5 := e5.st k15
  replace e8 := e8.st k15
  replace rp7 := rp7.st k15
  replace rp6 := rp6.st k15
  replace rp8 := rp8.st k15
  replace kk := kk.trans k15
  replace kS1 := kS1.trans k15
  have rp11 : RepL (Rp.int .i64) I8 w19 [.int .i64 (IntKind.i64.wrap x20.1)] ([IntKind.i64.wrap x20.1] : List Int) := RepL.cons (c := [.int .i64 (IntKind.i64.wrap x20.1)]) (d := []) (rfl) (RepL.nil)
  replace s : St w1 M I8 ((.sl (.slice (some ⟨b6, 0, none⟩) 1 1) 3 1 1 [.int .i64 (IntKind.i64.wrap x20.1)]) :: (.blk b1 (.cells #[.slice A20 x20.2.b.length u20, .int .i64 x20.2.err, .bool x20.2.made] 118 (0, 0))) :: (.sl (.slice A15 x15.length u15) 27 1 x15.length cl9) :: (.blk b4 (.cells #[.bool false, .slice none 0 0, .slice A16 x16.length u16, .slice A12 x10.length u12] 26 (0, 0))) :: (.sl (.slice A12 x10.length u12) 3 1 x10.length cl8) :: (.blk b2 (.cells #[.bool false, .slice none 0 0, .slice none 0 0, .slice none 0 0] 26 (0, 0))) :: (.sl (.slice A16 x16.length u16) 27 1 x16.length cl10) :: F) w19 := s.blkSl (i := 0) (n := 1) (c := 1) (size := 1) rfl rfl (Nat.le_refl _) (by decide)
  refine ⟨fun _ => ⟨_, s.pick [2, 5, 6] 7 rfl, kS1⟩, RD.fold ?_⟩
  refine RD.op (i := 1) rfl (by kernel_rfl) (by kernel_rfl) (OK.pure hT (ld := (.slice A12 x10.length u12)) (v := .slice A12 x10.length u12) (c := .cell ⟨b4, 3, none⟩ (.slice A12 x10.length u12)) (by kernel_rfl) (s.cell (i := 3) (off := 3) rfl rfl) ?_)
  refine ⟨fun _ => ⟨_, s.pick [2, 5, 6] 7 rfl, kS1⟩, RD.fold ?_⟩
  have hs3 := St.src s (i := 0) rfl rfl rp11
  have rq3 := rp11
  obtain ⟨x25, hx8, hf⟩ := bindS hf
  refine RD.op (i := 6) rfl (by kernel_rfl) (by kernel_rfl) (OK.app hT (r := (Rp.int .i64)) (i := 4) (t := 24) (e := 3) (size := 1) (bytes := 8) (c := u12) (n := x10.length) (m := 1) s (by kernel_rfl) rfl rfl rfl rfl rfl (by decide) rfl rfl rfl rfl rp6 hs3 rq3 flat_int rfl hx8 ?_)
  clear s
  rintro A22 u22 cl13 w23 s k19 rp13
  replace e5 := e5.st k19
  replace e8 := e8.st k19
  replace rp11 := rp11.st k19
  replace rp7 := rp7.st k19
  replace rp6 := rp6.st k19
  replace rp8 := rp8.st k19
  replace kk := kk.trans k19
  replace kS1 := kS1.trans k19
  refine ⟨fun _ => ⟨_, s.pick [2, 5, 6] 7 rfl, kS1⟩, RD.fold ?_⟩
  refine RD.segM hT ht1 (by kernel_rfl) [7] [] [] [.pointer (some ⟨b4, 3, none⟩)] [] (by kernel_rfl) (fun _ _ => trivial) ⟨_, s.pick [2, 5, 6] 7 rfl, kS1⟩ ?_
  refine RD.op (i := 8) rfl (by kernel_rfl) (by kernel_rfl) (OK.store hT (i := 3) (b := b4) (off := 3) (n := 1) (vs := [.slice A22 x25.length u22]) (cs := [.bool false, .slice none 0 0, .slice A16 x16.length u16, (.slice A12 x10.length u12)]) (e := 26) s (by kernel_rfl) rfl rfl (flat_ok rfl) (Nat.le_of_ble_eq_true rfl) ?_)
  clear s
  rintro w24 s k20 -
  replace e5 := e5.st k20
  replace e8 := e8.st k20
  replace rp11 := rp11.st k20
  replace rp7 := rp7.st k20
  replace rp13 := rp13.st k20
  replace rp8 := rp8.st k20
  replace kk := kk.trans k20
  replace kS1 := kS1.trans k20
  refine ⟨fun _ => ⟨_, s.pick [2, 5, 6] 7 rfl, kS1⟩, RD.fold ?_⟩
  refine RD.done (by kernel_rfl) ?_
  refine WPK.seq ?_
  refine WPK.region ?_
  refine RW.seg hT 1 [] [] [.pointer (some ⟨b1, 0, none⟩)] [] (by kernel_rfl) (trivial) ?_
  replace s := s.pick [1, 0, 2, 3, 4, 5, 6] 7 rfl
  obtain ⟨x26, hx9, hf⟩ := bindS hf
  refine RW.op (by kernel_rfl) (OK.call' en72 (by kernel_rfl) (c72 (F := (.sl (.slice (some ⟨b6, 0, none⟩) 1 1) 3 1 1 [.int .i64 (IntKind.i64.wrap x20.1)]) :: (.sl (.slice A15 x15.length u15) 27 1 x15.length cl9) :: (.blk b4 (.cells #[.bool false, .slice none 0 0, .slice A16 x16.length u16, .slice A22 x25.length u22] 26 (0, 0))) :: (.sl (.slice A22 x25.length u22) 3 1 x25.length cl13) :: (.blk b2 (.cells #[.bool false, .slice none 0 0, .slice none 0 0, .slice none 0 0] 26 (0, 0))) :: (.sl (.slice A16 x16.length u16) 27 1 x16.length cl10) :: F) x20.2 b1 A20 u20 hc8 e8 s hx9) ?_)
  intro X10 hX10
  refine fun _ _ hJ => hJ X10 ?_
  clear s
  intro I10 w25 s k21
  refine hX10 _ _ ?_
  replace e5 := e5.st k21
  replace e8 := e8.st k21
  replace rp11 := rp11.st k21
  replace rp7 := rp7.st k21
  replace rp13 := rp13.st k21
  replace rp8 := rp8.st k21
  replace kk := kk.trans k21
  refine RW.seg hT 1 [] [(32, .bool (decide (x26 ≠ 0)))] [.bool (decide (x26 ≠ 0))] [.veq (.bool (x26 != 0)) (.bool (decide (x26 ≠ 0)))] (by kernel_rfl) (ne_v) ?_
  refine RW.nil ?_
  by_cases h4 : x26 ≠ 0
  have hf := iteT h4 hf
  refine WPK.condT (Eq.trans (b := .bool (decide (x26 ≠ 0))) (by kernel_rfl) (bo_t h4)) ?_
  refine WPK.exit (blockQ.other rfl (blockQ.same ?_))
  replace s := s.pick [0, 3, 4, 5, 6] 7 rfl
  exact fun X h => kc (by kernel_rfl) rfl (h I10 x20.2.b x20.2.err x20.2.made x16 x25 A20 u20 A16 u16 cl10 A22 u22 cl13 _ hf s kk hc8 e8 rp8 rp13)
  have hf := iteF h4 hf
  refine WPK.condF (Eq.trans (b := .bool (decide (x26 ≠ 0))) (by kernel_rfl) (bo_f h4)) ?_
  refine WPK.skip ?_
  refine WPK.region ?_
  refine RW.seg hT 2 [] [] [.int .u8 (IntKind.u8.wrap (x8 + 1)), .int .u8 (IntKind.u8.wrap (x8 + 1))] [] (by kernel_rfl) (trivial) ?_
  refine RW.nil ?_
  subst hrec1
  replace s := s.pick [3, 4, 0, 5, 6] 7 rfl
  exact ⟨n5, Nat.le_refl _, fun X h => kc (by kernel_rfl) rfl (h I10 (IntKind.u8.wrap (x8 + 1)) x16 x25 x20.2.b x20.2.err x20.2.made A16 u16 cl10 A22 u22 cl13 A20 u20 _ hf s kk rp8 rp13 hc8 e8)⟩
  have e4S2 := e4
  have rp6S2 := rp6
  have rp5S2 := rp5
  have kS2 : Kp I4 w10 I4 w10 := Kp.refl
  refine WPK.drawM (fun w' => ∃ I' : Nat → Prop, St w1 M I' ((.sl (.slice A12 x10.length u12) 3 1 x10.length cl8) :: (.blk b2 (.cells #[.bool false, .slice none 0 0, .slice none 0 0, .slice none 0 0] 26 (0, 0))) :: F) w' ∧ Kp I4 w10 I' w') 8 [0, 1, 0, 4, 12, 31, 63, 127] (by kernel_rfl) (by kernel_rfl) ?_
  intro ht2 w26 hd2
  have k22 := Kp.dr s hd2
  replace s := s.dr hd2
  replace e4 := e4.st k22
  replace rp6 := rp6.st k22
  replace rp5 := rp5.st k22
  replace kk := kk.trans k22
  replace kS2 := kS2.trans k22
  refine RD.segM hT ht2 (by kernel_rfl) [0, 2] [] [] [.pointer (some ⟨b4, 2, none⟩), .pointer (some ⟨b1, 0, none⟩)] [] (by kernel_rfl) (fun _ _ => trivial) ⟨_, s.pick [1, 3] 5 rfl, kS2⟩ ?_
  obtain ⟨x27, hx10, hf⟩ := bindS hf
  refine RD.ways [1, 3] (by kernel_rfl) (List.forall_mem_cons.2 ⟨?_, List.forall_mem_cons.2 ⟨?_, fun _ h => nomatch h⟩⟩)
  refine RWay.op rfl (by kernel_rfl) (OK.pure hT (ld := (.slice A11 x9.length u11)) (v := .slice A11 x9.length u11) (c := .cell ⟨b4, 2, none⟩ (.slice A11 x9.length u11)) (by kernel_rfl) (s.cell (i := 0) (off := 2) rfl rfl) ?_)
  refine ⟨fun _ => ⟨_, s.pick [1, 3] 5 rfl, kS2⟩, RD.fold ?_⟩
  replace s := s.pick [2, 0, 1, 3, 4] 5 rfl
  refine RD.op (i := 3) rfl (by kernel_rfl) (by kernel_rfl) (OK.call' en100 (by kernel_rfl) (c100 (F := (.blk b4 (.cells #[.bool false, .slice none 0 0, .slice A11 x9.length u11, .slice A12 x10.length u12] 26 (0, 0))) :: (.sl (.slice A12 x10.length u12) 3 1 x10.length cl8) :: (.blk b2 (.cells #[.bool false, .slice none 0 0, .slice none 0 0, .slice none 0 0] 26 (0, 0))) :: (.sl (.slice A11 x9.length u11) 27 1 x9.length cl7) :: F) (T_pack_Reader.mk x11 x12 x13) 25 b1 A13 u13 hc4 e4 s hx10) ?_)
  intro X11 hX11
  refine fun _ _ hJ => hJ X11 ?_
  clear s
  intro I11 A23 u23 A24 u24 w27 s k23 hc9 e9 hc10 e10
  refine hX11 _ _ ?_
  replace e4 := e4.st k23
  replace rp6 := rp6.st k23
  replace rp5 := rp5.st k23
  replace kk := kk.trans k23
  replace kS2 := kS2.trans k23
  refine ⟨fun _ => ⟨_, s.pick [2, 3] 5 rfl, kS2⟩, RD.fold ?_⟩
  refine RD.op (i := 4) rfl (by kernel_rfl) (by kernel_rfl) (OK.new hT (f := fun b => .slice (some ⟨b, 0, none⟩) 1 1) (cs := [.slice A23 x27.1.length u23]) (e := 27) (c := .tt) s (by kernel_rfl) trivial ?_)
  clear s
  rintro w28 b7 s k24 -
  replace e9 := e9.st k24
  replace e10 := e10.st k24
  replace rp6 := rp6.st k24
  replace rp5 := rp5.st k24
  replace kk := kk.trans k24
  replace kS2 := kS2.trans k24
  have rp14 : RepL (Rp.slice (Rp.int .u8)) I11 w28 [.slice A23 x27.1.length u23] ([x27.1] : List (List Int)) := RepL.cons (c := [.slice A23 x27.1.length u23]) (d := []) (⟨_, _, rfl, hc9.1, hc9.2, e9⟩) (RepL.nil)
  replace s : St w1 M I11 ((.sl (.slice (some ⟨b7, 0, none⟩) 1 1) 27 1 1 [.slice A23 x27.1.length u23]) :: (.blk b1 (.cells #[.slice A24 x27.2.b.length u24, .int .i64 x27.2.err, .bool x27.2.made] 118 (0, 0))) :: (.blk b4 (.cells #[.bool false, .slice none 0 0, .slice A11 x9.length u11, .slice A12 x10.length u12] 26 (0, 0))) :: (.sl (.slice A12 x10.length u12) 3 1 x10.length cl8) :: (.blk b2 (.cells #[.bool false, .slice none 0 0, .slice none 0 0, .slice none 0 0] 26 (0, 0))) :: (.sl (.slice A11 x9.length u11) 27 1 x9.length cl7) :: F) w28 := s.blkSl (i := 0) (n := 1) (c := 1) (size := 1) rfl rfl (Nat.le_refl _) (by decide)
  refine ⟨fun _ => ⟨_, s.pick [3, 4] 6 rfl, kS2⟩, RD.fold ?_⟩
  have hs4 := St.src s (i := 0) rfl rfl rp14
  have rq4 := rp14
  obtain ⟨x28, hx11, hf⟩ := bindS hf
  refine RD.op (i := 5) rfl (by kernel_rfl) (by kernel_rfl) (OK.app hT (r := (Rp.slice (Rp.int .u8))) (i := 5) (t := 23) (e := 27) (size := 1) (bytes := 24) (c := u11) (n := x9.length) (m := 1) s (by kernel_rfl) rfl rfl rfl rfl rfl (by decide) rfl rfl rfl rfl rp5 hs4 rq4 flat_slice rfl hx11 ?_)
  clear s
  rintro A25 u25 cl14 w29 s k25 rp15
  replace e9 := e9.st k25
  replace e10 := e10.st k25
  replace rp14 := rp14.st k25
  replace rp6 := rp6.st k25
  replace rp5 := rp5.st k25
  replace kk := kk.trans k25
  replace kS2 := kS2.trans k25
  refine ⟨fun _ => ⟨_, s.pick [3, 4] 6 rfl, kS2⟩, RD.fold ?_⟩
  refine RD.segM hT ht2 (by kernel_rfl) [6] [] [] [.pointer (some ⟨b4, 2, none⟩)] [] (by kernel_rfl) (fun _ _ => trivial) ⟨_, s.pick [3, 4] 6 rfl, kS2⟩ ?_
  refine RD.op (i := 7) rfl (by kernel_rfl) (by kernel_rfl) (OK.store hT (i := 2) (b := b4) (off := 2) (n := 1) (vs := [.slice A25 x28.length u25]) (cs := [.bool false, .slice none 0 0, (.slice A11 x9.length u11), .slice A12 x10.length u12]) (e := 26) s (by kernel_rfl) rfl rfl (flat_ok rfl) (Nat.le_of_ble_eq_true rfl) ?_)
  clear s
  rintro w30 s k26 -
  replace e9 := e9.st k26
  replace e10 := e10.st k26
  replace rp14 := rp14.st k26
  replace rp6 := rp6.st k26
  replace rp15 := rp15.st k26
  replace kk := kk.trans k26
  replace kS2 := kS2.trans k26
  refine ⟨fun _ => ⟨_, s.pick [3, 4] 6 rfl, kS2⟩, RD.fold ?_⟩
  refine RD.done (by kernel_rfl) ?_
  exact fun X h => kc (by kernel_rfl) rfl (h I11 x27.1 ([x27.1] : List (List Int)) x28 x27.2.b x27.2.err x27.2.made A23 u23 (some ⟨b7, 0, none⟩) 1 [.slice A23 x27.1.length u23] A25 u25 cl14 A24 u24 _ hf s kk hc9 e9 rp14 rp15 hc10 e10 rp6)
  replace s := s.pick [2, 0, 1, 3, 4] 5 rfl
  refine RWay.op rfl (by kernel_rfl) (OK.call' en100 (by kernel_rfl) (c100 (F := (.blk b4 (.cells #[.bool false, .slice none 0 0, .slice A11 x9.length u11, .slice A12 x10.length u12] 26 (0, 0))) :: (.sl (.slice A12 x10.length u12) 3 1 x10.length cl8) :: (.blk b2 (.cells #[.bool false, .slice none 0 0, .slice none 0 0, .slice none 0 0] 26 (0, 0))) :: (.sl (.slice A11 x9.length u11) 27 1 x9.length cl7) :: F) (T_pack_Reader.mk x11 x12 x13) 25 b1 A13 u13 hc4 e4 s hx10) ?_)
  intro X12 hX12
  refine fun _ _ hJ => hJ X12 ?_
  clear s
  intro I12 A26 u26 A27 u27 w31 s k27 hc11 e11 hc12 e12
  refine hX12 _ _ ?_
  replace e4 := e4.st k27
  replace rp6 := rp6.st k27
  replace rp5 := rp5.st k27
  replace kk := kk.trans k27
  replace kS2 := kS2.trans k27
  refine ⟨fun _ => ⟨_, s.pick [2, 3] 5 rfl, kS2⟩, RD.fold ?_⟩
  refine RD.ways [1, 4] (by kernel_rfl) (List.forall_mem_cons.2 ⟨?_, List.forall_mem_cons.2 ⟨?_, fun _ h => nomatch h⟩⟩)
  refine RWay.op rfl (by kernel_rfl) (OK.pure hT (ld := (.slice A11 x9.length u11)) (v := .slice A11 x9.length u11) (c := .cell ⟨b4, 2, none⟩ (.slice A11 x9.length u11)) (by kernel_rfl) (s.cell (i := 1) (off := 2) rfl rfl) ?_)
  refine ⟨fun _ => ⟨_, s.pick [2, 3] 5 rfl, kS2⟩, RD.fold ?_⟩
  refine RD.op (i := 4) rfl (by kernel_rfl) (by kernel_rfl) (OK.new hT (f := fun b => .slice (some ⟨b, 0, none⟩) 1 1) (cs := [.slice A26 x27.1.length u26]) (e := 27) (c := .tt) s (by kernel_rfl) trivial ?_)
  clear s
  rintro w32 b8 s k28 -
  replace e11 := e11.st k28
  replace e12 := e12.st k28
  replace rp6 := rp6.st k28
  replace rp5 := rp5.st k28
  replace kk := kk.trans k28
  replace kS2 := kS2.trans k28
  have rp16 : RepL (Rp.slice (Rp.int .u8)) I12 w32 [.slice A26 x27.1.length u26] ([x27.1] : List (List Int)) := RepL.cons (c := [.slice A26 x27.1.length u26]) (d := []) (⟨_, _, rfl, hc11.1, hc11.2, e11⟩) (RepL.nil)
  replace s : St w1 M I12 ((.sl (.slice (some ⟨b8, 0, none⟩) 1 1) 27 1 1 [.slice A26 x27.1.length u26]) :: (.blk b1 (.cells #[.slice A27 x27.2.b.length u27, .int .i64 x27.2.err, .bool x27.2.made] 118 (0, 0))) :: (.blk b4 (.cells #[.bool false, .slice none 0 0, .slice A11 x9.length u11, .slice A12 x10.length u12] 26 (0, 0))) :: (.sl (.slice A12 x10.length u12) 3 1 x10.length cl8) :: (.blk b2 (.cells #[.bool false, .slice none 0 0, .slice none 0 0, .slice none 0 0] 26 (0, 0))) :: (.sl (.slice A11 x9.length u11) 27 1 x9.length cl7) :: F) w32 := s.blkSl (i := 0) (n := 1) (c := 1) (size := 1) rfl rfl (Nat.le_refl _) (by decide)
  refine ⟨fun _ => ⟨_, s.pick [3, 4] 6 rfl, kS2⟩, RD.fold ?_⟩
  have hs5 := St.src s (i := 0) rfl rfl rp16
  have rq5 := rp16
  obtain ⟨x29, hx12, hf⟩ := bindS hf
  refine RD.op (i := 5) rfl (by kernel_rfl) (by kernel_rfl) (OK.app hT (r := (Rp.slice (Rp.int .u8))) (i := 5) (t := 23) (e := 27) (size := 1) (bytes := 24) (c := u11) (n := x9.length) (m := 1) s (by kernel_rfl) rfl rfl rfl rfl rfl (by decide) rfl rfl rfl rfl rp5 hs5 rq5 flat_slice rfl hx12 ?_)
  clear s
  rintro A28 u28 cl15 w33 s k29 rp17
  replace e11 := e11.st k29
  replace e12 := e12.st k29
  replace rp16 := rp16.st k29
  replace rp6 := rp6.st k29
  replace rp5 := rp5.st k29
  replace kk := kk.trans k29
  replace kS2 := kS2.trans k29
  refine ⟨fun _ => ⟨_, s.pick [3, 4] 6 rfl, kS2⟩, RD.fold ?_⟩
  refine RD.segM hT ht2 (by kernel_rfl) [6] [] [] [.pointer (some ⟨b4, 2, none⟩)] [] (by kernel_rfl) (fun _ _ => trivial) ⟨_, s.pick [3, 4] 6 rfl, kS2⟩ ?_
  refine RD.op (i := 7) rfl (by kernel_rfl) (by kernel_rfl) (OK.store hT (i := 2) (b := b4) (off := 2) (n := 1) (vs := [.slice A28 x29.length u28]) (cs := [.bool false, .slice none 0 0, (.slice A11 x9.length u11), .slice A12 x10.length u12]) (e := 26) s (by kernel_rfl) rfl rfl (flat_ok rfl) (Nat.le_of_ble_eq_true rfl) ?_)
  clear s
  rintro w34 s k30 -
  replace e11 := e11.st k30
  replace e12 := e12.st k30
  replace rp16 := rp16.st k30
  replace rp6 := rp6.st k30
  replace rp17 := rp17.st k30
  replace kk := kk.trans k30
  replace kS2 := kS2.trans k30
  refine ⟨fun _ => ⟨_, s.pick [3, 4] 6 rfl, kS2⟩, RD.fold ?_⟩
  refine RD.done (by kernel_rfl) ?_
  exact fun X h => kc (by kernel_rfl) rfl (h I12 x27.1 ([x27.1] : List (List Int)) x29 x27.2.b x27.2.err x27.2.made A26 u26 (some ⟨b8, 0, none⟩) 1 [.slice A26 x27.1.length u26] A28 u28 cl15 A27 u27 _ hf s kk hc11 e11 rp16 rp17 hc12 e12 rp6)
  refine RWay.op rfl (by kernel_rfl) (OK.new hT (f := fun b => .slice (some ⟨b, 0, none⟩) 1 1) (cs := [.slice A26 x27.1.length u26]) (e := 27) (c := .tt) s (by kernel_rfl) trivial ?_)
  clear s
  rintro w32 b8 s k28 -
  replace e11 := e11.st k28
  replace e12 := e12.st k28
  replace rp6 := rp6.st k28
  replace rp5 := rp5.st k28
  replace kk := kk.trans k28
  replace kS2 := kS2.trans k28
  have rp16 : RepL (Rp.slice (Rp.int .u8)) I12 w32 [.slice A26 x27.1.length u26] ([x27.1] : List (List Int)) := RepL.cons (c := [.slice A26 x27.1.length u26]) (d := []) (⟨_, _, rfl, hc11.1, hc11.2, e11⟩) (RepL.nil)
  replace s : St w1 M I12 ((.sl (.slice (some ⟨b8, 0, none⟩) 1 1) 27 1 1 [.slice A26 x27.1.length u26]) :: (.blk b1 (.cells #[.slice A27 x27.2.b.length u27, .int .i64 x27.2.err, .bool x27.2.made] 118 (0, 0))) :: (.blk b4 (.cells #[.bool false, .slice none 0 0, .slice A11 x9.length u11, .slice A12 x10.length u12] 26 (0, 0))) :: (.sl (.slice A12 x10.length u12) 3 1 x10.length cl8) :: (.blk b2 (.cells #[.bool false, .slice none 0 0, .slice none 0 0, .slice none 0 0] 26 (0, 0))) :: (.sl (.slice A11 x9.length u11) 27 1 x9.length cl7) :: F) w32 := s.blkSl (i := 0) (n := 1) (c := 1) (size := 1) rfl rfl (Nat.le_refl _) (by decide)
  refine ⟨fun _ => ⟨_, s.pick [3, 4] 6 rfl, kS2⟩, RD.fold ?_⟩
  refine RD.op (i := 1) rfl (by kernel_rfl) (by kernel_rfl) (OK.pure hT (ld := (.slice A11 x9.length u11)) (v := .slice A11 x9.length u11) (c := .cell ⟨b4, 2, none⟩ (.slice A11 x9.length u11)) (by kernel_rfl) (s.cell (i := 2) (off := 2) rfl rfl) ?_)
  refine ⟨fun _ => ⟨_, s.pick [3, 4] 6 rfl, kS2⟩, RD.fold ?_⟩
  have hs6 := St.src s (i := 0) rfl rfl rp16
  have rq6 := rp16
  obtain ⟨x30, hx13, hf⟩ := bindS hf
  refine RD.op (i := 5) rfl (by kernel_rfl) (by kernel_rfl) (OK.app hT (r := (Rp.slice (Rp.int .u8))) (i := 5) (t := 23) (e := 27) (size := 1) (bytes := 24) (c := u11) (n := x9.length) (m := 1) s (by kernel_rfl) rfl rfl rfl rfl rfl (by decide) rfl rfl rfl rfl rp5 hs6 rq6 flat_slice rfl hx13 ?_)
  clear s
  rintro A29 u29 cl16 w35 s k31 rp18
  replace e11 := e11.st k31
  replace e12 := e12.st k31
  replace rp16 := rp16.st k31
  replace rp6 := rp6.st k31
  replace rp5 := rp5.st k31
  replace kk := kk.trans k31
  replace kS2 := kS2.trans k31
  refine ⟨fun _ => ⟨_, s.pick [3, 4] 6 rfl, kS2⟩, RD.fold ?_⟩
  refine RD.segM hT ht2 (by kernel_rfl) [6] [] [] [.pointer (some ⟨b4, 2, none⟩)] [] (by kernel_rfl) (fun _ _ => trivial) ⟨_, s.pick [3, 4] 6 rfl, kS2⟩ ?_
  refine RD.op (i := 7) rfl (by kernel_rfl) (by kernel_rfl) (OK.store hT (i := 2) (b := b4) (off := 2) (n := 1) (vs := [.slice A29 x30.length u29]) (cs := [.bool false, .slice none 0 0, (.slice A11 x9.length u11), .slice A12 x10.length u12]) (e := 26) s (by kernel_rfl) rfl rfl (flat_ok rfl) (Nat.le_of_ble_eq_true rfl) ?_)
  clear s
  rintro w36 s k32 -
  replace e11 := e11.st k32
  replace e12 := e12.st k32
  replace rp16 := rp16.st k32
  replace rp6 := rp6.st k32
  replace rp18 := rp18.st k32
  replace kk := kk.trans k32
  replace kS2 := kS2.trans k32
  refine ⟨fun _ => ⟨_, s.pick [3, 4] 6 rfl, kS2⟩, RD.fold ?_⟩
  refine RD.done (by kernel_rfl) ?_
  exact fun X h => kc (by kernel_rfl) rfl (h I12 x27.1 ([x27.1] : List (List Int)) x30 x27.2.b x27.2.err x27.2.made A26 u26 (some ⟨b8, 0, none⟩) 1 [.slice A26 x27.1.length u26] A29 u29 cl16 A27 u27 _ hf s kk hc11 e11 rp16 rp18 hc12 e12 rp6)
  have hf := iteF h1 hf
  refine WPK.condF (Eq.trans (b := .bool (decide (x8 < x1.1))) (by kernel_rfl) (bo_f h1)) ?_
  refine WPK.exit (blockQ.same ?_)
  replace s := s.pick [2, 0, 1, 3, 4] 5 rfl
  exact fun X h => kc (by kernel_rfl) rfl (h I4 x11 x12 x13 x9 x10 A13 u13 A11 u11 cl7 A12 u12 cl8 _ hf s kk hc4 e4 rp5 rp6)
theorem c32 {w1 w : World} {M I : Nat → Prop} {F : List It} (p0 : Int) (p1 : (List Int)) (A1 : Option Addr) (u1 : Nat) (hc1 : (p1.length ≤ u1 ∧ u1 ≤ 9223372036854775807)) (e1 : Elems (Rp.int .u8) I w A1 p1) (s : St w1 M I (F) w) {r : (T_api_Node × Int)} (hf : g32 p0 p1 = some r) :
    Ret Try.prog 32 [.int .i64 p0, .slice A1 p1.length u1] w fun v wz => ∀ X : Value → World → Prop, (∀ (I' : Nat → Prop) (A2 : Option Addr) (n1 : Nat) (u2 : Nat) (cl1 : List Value) (A3 : Option Addr) (n2 : Nat) (u3 : Nat) (cl2 : List Value) (A4 : Option Addr) (n3 : Nat) (u4 : Nat) (cl3 : List Value) (w' : World), St w1 M I' ((.sl (.slice A2 n1 u2) 48 2 n1 cl1) :: (.sl (.slice A3 n2 u3) 27 1 n2 cl2) :: (.sl (.slice A4 n3 u4) 3 1 n3 cl3) :: F) w' → Kp I w I' w' → n1 = r.1.Pairs.length → RepL rp_T_api_Pair I' w' cl1 r.1.Pairs → n2 = r.1.Keys.length → RepL (Rp.slice (Rp.int .u8)) I' w' cl2 r.1.Keys → n3 = r.1.Kids.length → RepL (Rp.int .i64) I' w' cl3 r.1.Kids → X (.tuple #[.agg #[.bool r.1.Leaf, .slice A2 n1 u2, .slice A3 n2 u3, .slice A4 n3 u4], .int .i64 r.2]) w') → X v wz := by
  have kk : Kp I w I w := Kp.refl
  unfold g32 at hf
  refine Ret.of Try.func32 rfl ?_
  refine WPK.seq ?_
  refine WPK.region ?_
  refine RW.op (by kernel_rfl) (OK.new hT (f := fun b => .pointer (some ⟨b, 0, none⟩)) (cs := [.bool false, .slice none 0 0, .slice none 0 0, .slice none 0 0]) (e := 26) (c := .tt) s (by kernel_rfl) trivial ?_)
  clear s
  rintro w2 b1 s k1 -
  replace e1 := e1.st k1
  replace kk := kk.trans k1
  refine RW.seg hT 1 [] [] [.int .i64 0] [] (by kernel_rfl) (trivial) ?_
  refine RW.nil ?_
  refine WPK.seq ?_
  refine WPK.region ?_
  refine RW.op (by kernel_rfl) (OK.new hT (f := fun b => .pointer (some ⟨b, 0, none⟩)) (cs := [.bool false, .slice none 0 0, .slice none 0 0, .slice none 0 0]) (e := 26) (c := .tt) s (by kernel_rfl) trivial ?_)
  clear s
  rintro w3 b2 s k2 -
  replace e1 := e1.st k2
  replace kk := kk.trans k2
  refine RW.nil ?_
  refine WPK.seq ?_
  refine WPK.region ?_
  refine RW.seg hT 1 [] [] [.slice A1 p1.length u1] [] (by kernel_rfl) (trivial) ?_
  obtain ⟨x1, hx1, hf⟩ := bindS hf
  refine RW.op (by kernel_rfl) (OK.call' en69 (by kernel_rfl) (c69 (F := (.blk b2 (.cells #[.bool false, .slice none 0 0, .slice none 0 0, .slice none 0 0] 26 (0, 0))) :: (.blk b1 (.cells #[.bool false, .slice none 0 0, .slice none 0 0, .slice none 0 0] 26 (0, 0))) :: F) p1 A1 u1 hc1 e1 s hx1) ?_)
  intro X1 hX1
  refine fun _ _ hJ => hJ X1 ?_
  clear s
  intro I1 b3 A5 n4 u5 cl4 w4 s k3 hn1 rp1
  refine hX1 _ _ ?_
  replace e1 := e1.st k3
  replace kk := kk.trans k3
  refine RW.seg hT 1 [] [] [.pointer (some ⟨b3, 0, none⟩)] [] (by kernel_rfl) (trivial) ?_
  refine RW.nil ?_
  refine WPK.seq ?_
  refine WPK.cut' (Kn fun D1 ds wz => ∀ X : Kont, (∀ (I2 : Nat → Prop) (x2 : (List Int)) (x3 : Int) (x4 : Bool) (x5 : Bool) (x6 : (List T_api_Pair)) (x7 : (List (List Int))) (x8 : (List Int)) (A6 : Option Addr) (u6 : Nat) (A7 : Option Addr) (n5 : Nat) (u7 : Nat) (cl5 : List Value) (A8 : Option Addr) (n6 : Nat) (u8 : Nat) (cl6 : List Value) (A9 : Option Addr) (n7 : Nat) (u9 : Nat) (cl7 : List Value) (w' : World), g32_j1 p1 x2 x3 x4 x5 x6 x7 x8 = some r → St w1 M I2 ((.sl (.slice A7 n5 u7) 48 2 n5 cl5) :: (.sl (.slice A8 n6 u8) 27 1 n6 cl6) :: (.sl (.slice A9 n7 u9) 3 1 n7 cl7) :: (.blk b3 (.cells #[.slice A6 x2.length u6, .int .i64 x3, .bool x4] 118 (0, 0))) :: (.blk b2 (.cells #[.bool x5, .slice A7 n5 u7, .slice A8 n6 u8, .slice A9 n7 u9] 26 (0, 0))) :: (.blk b1 (.cells #[.bool false, .slice none 0 0, .slice none 0 0, .slice none 0 0] 26 (0, 0))) :: F) w' → Kp I w I2 w' → Elems (Rp.int .u8) I2 w' A1 p1 → (x2.length ≤ u6 ∧ u6 ≤ 9223372036854775807) → Elems (Rp.int .u8) I2 w' A6 x2 → n5 = x6.length → RepL rp_T_api_Pair I2 w' cl5 x6 → n6 = x7.length → RepL (Rp.slice (Rp.int .u8)) I2 w' cl6 x7 → n7 = x8.length → RepL (Rp.int .i64) I2 w' cl7 x8 → X [(D1.getD 0 undef), .slice A1 p1.length u1, (D1.getD 2 undef), (D1.getD 3 undef), .pointer (some ⟨b1, 0, none⟩), .int .i64 0, .pointer (some ⟨b2, 0, none⟩), .pointer (some ⟨b3, 0, none⟩), (D1.getD 8 undef), undef, undef, (D1.getD 11 undef), (D1.getD 12 undef), (D1.getD 13 undef), (D1.getD 14 undef), (D1.getD 15 undef), (D1.getD 16 undef), (D1.getD 17 undef), (D1.getD 18 undef), (D1.getD 19 undef), (D1.getD 20 undef), (D1.getD 21 undef), (D1.getD 22 undef), undef, undef, undef, undef, undef, undef, undef, undef, undef, undef, undef, undef, undef, undef, undef, undef, undef, undef, undef, undef] [] w') → X D1 ds wz) ?_ ?_
  intro X2 hX2
  refine fun D1 _ _ hJ => hJ X2 ?_
  clear s
  intro I2 x2 x3 x4 x5 x6 x7 x8 A6 u6 A7 n5 u7 cl5 A8 n6 u8 cl6 A9 n7 u9 cl7 w5 hf s kk e1 hc2 e2 hn2 rp2 hn3 rp3 hn4 rp4
  refine hX2 _ _ _ ?_
  unfold g32_j1 at hf
  refine WPK.seq ?_
  refine WPK.seq ?_
  refine WPK.region ?_
  refine RW.seg hT 1 [] [] [.pointer (some ⟨b3, 0, none⟩)] [] (by kernel_rfl) (trivial) ?_
  replace s := s.pick [3, 0, 1, 2, 4, 5] 6 rfl
  obtain ⟨x9, hx2, hf⟩ := bindS hf
  refine RW.op (by kernel_rfl) (OK.call' en72 (by kernel_rfl) (c72 (F := (.sl (.slice A7 n5 u7) 48 2 n5 cl5) :: (.sl (.slice A8 n6 u8) 27 1 n6 cl6) :: (.sl (.slice A9 n7 u9) 3 1 n7 cl7) :: (.blk b2 (.cells #[.bool x5, .slice A7 n5 u7, .slice A8 n6 u8, .slice A9 n7 u9] 26 (0, 0))) :: (.blk b1 (.cells #[.bool false, .slice none 0 0, .slice none 0 0, .slice none 0 0] 26 (0, 0))) :: F) (T_pack_Reader.mk x2 x3 x4) b3 A6 u6 hc2 e2 s hx2) ?_)
  intro X3 hX3
  refine fun _ _ hJ => hJ X3 ?_
  clear s
  intro I3 w6 s k4
  refine hX3 _ _ ?_
  replace e1 := e1.st k4
  replace e2 := e2.st k4
  replace rp2 := rp2.st k4
  replace rp3 := rp3.st k4
  replace rp4 := rp4.st k4
  replace kk := kk.trans k4
  refine RW.seg hT 1 [] [(25, .bool (decide (x9 ≠ 0)))] [.bool (decide (x9 ≠ 0))] [.veq (.bool (x9 != 0)) (.bool (decide (x9 ≠ 0)))] (by kernel_rfl) (ne_v) ?_
  refine RW.nil ?_
  by_cases h1 : x9 ≠ 0
  have hf := iteT h1 hf
  refine WPK.condT (Eq.trans (b := .bool (decide (x9 ≠ 0))) (by kernel_rfl) (bo_t h1)) ?_
  refine WPK.seq ?_
  refine WPK.region ?_
  refine RW.seg hT 1 [] [] [.agg #[.bool false, .slice none 0 0, .slice none 0 0, .slice none 0 0]] [] (by kernel_rfl) (trivial) ?_
  refine RW.op (by kernel_rfl) (OK.store hT (i := 5) (b := b1) (off := 0) (n := 4) (vs := [.bool false, .slice none 0 0, .slice none 0 0, .slice none 0 0]) (cs := [.bool false, .slice none 0 0, .slice none 0 0, .slice none 0 0]) (e := 26) s (by kernel_rfl) rfl rfl (flat_ok rfl) (Nat.le_of_ble_eq_true rfl) ?_)
  clear s
  rintro w7 s k5 -
  replace e1 := e1.st k5
  replace e2 := e2.st k5
  replace rp2 := rp2.st k5
  replace rp3 := rp3.st k5
  replace rp4 := rp4.st k5
  replace kk := kk.trans k5
  refine RW.seg hT 1 [] [] [.int .i64 100] [] (by kernel_rfl) (trivial) ?_
  refine RW.nil ?_
  refine WPK.ret (?_)
  obtain rfl := someS hf
  refine Fin.of (rs := [.cell 4 26, .tmp 5]) hT [.agg #[.bool false, .slice none 0 0, .slice none 0 0, .slice none 0 0]] (.tuple #[.agg #[.bool false, .slice none 0 0, .slice none 0 0, .slice none 0 0], .int .i64 100]) [.cells ⟨b1, 0, none⟩ [.bool false, .slice none 0 0, .slice none 0 0, .slice none 0 0] 4] rfl (by kernel_rfl) (s.cells (i := 5) rfl rfl rfl) ?_
  replace s := s.pushNil 48 2
  replace s := s.pushNil 27 1
  replace s := s.pushNil 3 1
  replace s := s.pick [2, 1, 0] 9 rfl
  exact fun X h => vc rfl (h I3 none 0 0 [] none 0 0 [] none 0 0 [] _ s kk rfl (RepL.nil (r := rp_T_api_Pair)) rfl (RepL.nil (r := (Rp.slice (Rp.int .u8)))) rfl (RepL.nil (r := (Rp.int .i64))))
  have hf := iteF h1 hf
  refine WPK.condF (Eq.trans (b := .bool (decide (x9 ≠ 0))) (by kernel_rfl) (bo_f h1)) ?_
  refine WPK.skip ?_
  refine WPK.seq ?_
  refine WPK.seq ?_
  refine WPK.region ?_
  refine RW.seg hT 1 [.agg #[.bool x5, .slice A7 n5 u7, .slice A8 n6 u8, .slice A9 n7 u9]] [] [.agg #[.bool x5, .slice A7 n5 u7, .slice A8 n6 u8, .slice A9 n7 u9]] [.cells ⟨b2, 0, none⟩ [.bool x5, .slice A7 n5 u7, .slice A8 n6 u8, .slice A9 n7 u9] 4] (by kernel_rfl) (s.cells (i := 4) rfl rfl rfl) ?_
  have sa1 := s
  obtain ⟨hc3, e3⟩ := St.lend s (i := 1) rfl hn2 rp2
  have k6 := Kp.shut (I := I3) (w := w6) (p := .sl (.slice A7 n5 u7) 48 2 n5 cl5)
  replace s := s.shut 1 rfl
  have sa2 := s
  obtain ⟨hc4, e4⟩ := St.lend s (i := 1) rfl hn3 (rp3.st k6)
  have k7 := Kp.shut (I := (fun k => I3 k ∨ (It.sl (.slice A7 n5 u7) 48 2 n5 cl5).foot = some k)) (w := w6) (p := .sl (.slice A8 n6 u8) 27 1 n6 cl6)
  replace s := s.shut 1 rfl
  replace e3 := e3.st k7
  have sa3 := s
  obtain ⟨hc5, e5⟩ := St.lend s (i := 1) rfl hn4 ((rp4.st k6).st k7)
  have k8 := Kp.shut (I := (fun k => (fun k => I3 k ∨ (It.sl (.slice A7 n5 u7) 48 2 n5 cl5).foot = some k) k ∨ (It.sl (.slice A8 n6 u8) 27 1 n6 cl6).foot = some k)) (w := w6) (p := .sl (.slice A9 n7 u9) 3 1 n7 cl7)
  replace s := s.shut 1 rfl
  replace e3 := e3.st k8
  replace e4 := e4.st k8
  obtain ⟨x10, hx3, hf⟩ := bindS hf
  have hc6 := c30 (F := (.blk b3 (.cells #[.slice A6 x2.length u6, .int .i64 x3, .bool x4] 118 (0, 0))) :: (.blk b2 (.cells #[.bool x5, .slice A7 n5 u7, .slice A8 n6 u8, .slice A9 n7 u9] 26 (0, 0))) :: (.blk b1 (.cells #[.bool false, .slice none 0 0, .slice none 0 0, .slice none 0 0] 26 (0, 0))) :: F) (T_api_Node.mk x5 x6 x7 x8) A7 u7 A8 u8 A9 u9 hc3 e3 hc4 e4 hc5 e5 s hx3
  rw [← hn2, ← hn3, ← hn4] at hc6
  refine RW.op (by kernel_rfl) (OK.call' en30 (by kernel_rfl) (hc6) ?_)
  intro X4 hX4
  refine fun _ _ hJ => hJ X4 ?_
  clear s
  intro I4 A10 n8 u10 cl8 w8 s k9 hn5 rp5
  refine hX4 _ _ ?_
  have s' := St.back sa3 (i := 1) rfl s k9
  replace k9 := Kp.back sa3 (i := 1) rfl k9
  replace s := s'; clear s'
  have s' := St.back sa2 (i := 1) rfl s k9
  replace k9 := Kp.back sa2 (i := 1) rfl k9
  replace s := s'; clear s'
  have s' := St.back sa1 (i := 1) rfl s k9
  replace k9 := Kp.back sa1 (i := 1) rfl k9
  replace s := s'; clear s'
  obtain ⟨I5, s, k9⟩ : ∃ I : Nat → Prop, St w1 M I ((.sl (.slice A7 n5 u7) 48 2 n5 cl5) :: (.sl (.slice A8 n6 u8) 27 1 n6 cl6) :: (.sl (.slice A9 n7 u9) 3 1 n7 cl7) :: (.sl (.slice A10 n8 u10) 5 1 n8 cl8) :: (.blk b3 (.cells #[.slice A6 x2.length u6, .int .i64 x3, .bool x4] 118 (0, 0))) :: (.blk b2 (.cells #[.bool x5, .slice A7 n5 u7, .slice A8 n6 u8, .slice A9 n7 u9] 26 (0, 0))) :: (.blk b1 (.cells #[.bool false, .slice none 0 0, .slice none 0 0, .slice none 0 0] 26 (0, 0))) :: F) w8 ∧ Kp _ _ I _ := ⟨_, s, k9⟩
  replace rp5 := RepL.free (I' := I5) (w' := w8) free_int rp5
  replace e1 := e1.st k9
  replace e2 := e2.st k9
  replace rp2 := rp2.st k9
  replace rp3 := rp3.st k9
  replace rp4 := rp4.st k9
  replace kk := kk.trans k9
  refine RW.seg hT 7 [] [] [.tuple #[.int .i64 x10.1, .slice A10 n8 u10, .int .i64 x10.2.2], .int .i64 x10.1, .slice A10 n8 u10, .int .i64 x10.2.2, .int .i64 x10.1, .slice A10 n8 u10, .int .i64 x10.2.2] [] (by kernel_rfl) (trivial) ?_
  refine RW.nil ?_
  refine WPK.seq ?_
  refine WPK.region ?_
  refine RW.seg hT 2 [] [(34, .bool (decide (x10.2.2 ≠ 0)))] [.int .i64 x10.2.2, .bool (decide (x10.2.2 ≠ 0))] [.veq (.bool (x10.2.2 != 0)) (.bool (decide (x10.2.2 ≠ 0)))] (by kernel_rfl) (ne_v) ?_
  by_cases h2 : x10.2.2 ≠ 0
  have hf := iteT h2 hf
  refine RW.seg hT 6 [] [(35, .bool true)] [.bool true, undef, undef, undef, undef, .bool true] [.veq (.bool (decide (x10.2.2 ≠ 0))) (.bool true)] (by kernel_rfl) (bo_t h2) ?_
  refine RW.nil ?_
  refine WPK.condT (by kernel_rfl) ?_
  refine WPK.seq ?_
  refine WPK.region ?_
  refine RW.seg hT 1 [] [] [.agg #[.bool false, .slice none 0 0, .slice none 0 0, .slice none 0 0]] [] (by kernel_rfl) (trivial) ?_
  refine RW.op (by kernel_rfl) (OK.store hT (i := 6) (b := b1) (off := 0) (n := 4) (vs := [.bool false, .slice none 0 0, .slice none 0 0, .slice none 0 0]) (cs := [.bool false, .slice none 0 0, .slice none 0 0, .slice none 0 0]) (e := 26) s (by kernel_rfl) rfl rfl (flat_ok rfl) (Nat.le_of_ble_eq_true rfl) ?_)
  clear s
  rintro w9 s k10 -
  replace e1 := e1.st k10
  replace e2 := e2.st k10
  replace rp2 := rp2.st k10
  replace rp3 := rp3.st k10
  replace rp4 := rp4.st k10
  replace rp5 := rp5.st k10
  replace kk := kk.trans k10
  refine RW.seg hT 1 [] [] [.int .i64 100] [] (by kernel_rfl) (trivial) ?_
  refine RW.nil ?_
  refine WPK.ret (?_)
  obtain rfl := someS hf
  refine Fin.of (rs := [.cell 4 26, .tmp 5]) hT [.agg #[.bool false, .slice none 0 0, .slice none 0 0, .slice none 0 0]] (.tuple #[.agg #[.bool false, .slice none 0 0, .slice none 0 0, .slice none 0 0], .int .i64 100]) [.cells ⟨b1, 0, none⟩ [.bool false, .slice none 0 0, .slice none 0 0, .slice none 0 0] 4] rfl (by kernel_rfl) (s.cells (i := 6) rfl rfl rfl) ?_
  replace s := s.pushNil 48 2
  replace s := s.pushNil 27 1
  replace s := s.pushNil 3 1
  replace s := s.pick [2, 1, 0] 10 rfl
  exact fun X h => vc rfl (h I5 none 0 0 [] none 0 0 [] none 0 0 [] _ s kk rfl (RepL.nil (r := rp_T_api_Pair)) rfl (RepL.nil (r := (Rp.slice (Rp.int .u8)))) rfl (RepL.nil (r := (Rp.int .i64))))
  have hf := iteF h2 hf
  refine RW.seg hT 3 [] [(35, .bool false)] [.bool false, .slice A1 p1.length u1, .slice A10 n8 u10] [.veq (.bool (decide (x10.2.2 ≠ 0))) (.bool false)] (by kernel_rfl) (bo_f h2) ?_
  have sa4 := s
  obtain ⟨hc7, e6⟩ := St.lend s (i := 3) rfl hn5 rp5
  have k11 := Kp.shut (I := I5) (w := w8) (p := .sl (.slice A10 n8 u10) 5 1 n8 cl8)
  replace s := s.shut 3 rfl
  obtain ⟨x11, hx4, hf⟩ := bindS hf
  have hc8 := c34 (F := (.sl (.slice A7 n5 u7) 48 2 n5 cl5) :: (.sl (.slice A8 n6 u8) 27 1 n6 cl6) :: (.sl (.slice A9 n7 u9) 3 1 n7 cl7) :: (.blk b3 (.cells #[.slice A6 x2.length u6, .int .i64 x3, .bool x4] 118 (0, 0))) :: (.blk b2 (.cells #[.bool x5, .slice A7 n5 u7, .slice A8 n6 u8, .slice A9 n7 u9] 26 (0, 0))) :: (.blk b1 (.cells #[.bool false, .slice none 0 0, .slice none 0 0, .slice none 0 0] 26 (0, 0))) :: F) p1 x10.2.1 A1 u1 A10 u10 hc1 (e1.st k11) hc7 e6 s hx4
  rw [← hn5] at hc8
  refine RW.op (by kernel_rfl) (OK.call' en34 (by kernel_rfl) (hc8) ?_)
  intro X5 hX5
  refine fun _ _ hJ => hJ X5 ?_
  clear s
  intro I6 w10 s k12
  refine hX5 _ _ ?_
  have s' := St.back sa4 (i := 3) rfl s k12
  replace k12 := Kp.back sa4 (i := 3) rfl k12
  replace s := s'; clear s'
  obtain ⟨I7, s, k12⟩ : ∃ I : Nat → Prop, St w1 M I ((.sl (.slice A10 n8 u10) 5 1 n8 cl8) :: (.sl (.slice A7 n5 u7) 48 2 n5 cl5) :: (.sl (.slice A8 n6 u8) 27 1 n6 cl6) :: (.sl (.slice A9 n7 u9) 3 1 n7 cl7) :: (.blk b3 (.cells #[.slice A6 x2.length u6, .int .i64 x3, .bool x4] 118 (0, 0))) :: (.blk b2 (.cells #[.bool x5, .slice A7 n5 u7, .slice A8 n6 u8, .slice A9 n7 u9] 26 (0, 0))) :: (.blk b1 (.cells #[.bool false, .slice none 0 0, .slice none 0 0, .slice none 0 0] 26 (0, 0))) :: F) w10 ∧ Kp _ _ I _ := ⟨_, s, k12⟩
  replace e1 := e1.st k12
  replace e2 := e2.st k12
  replace rp2 := rp2.st k12
  replace rp3 := rp3.st k12
  replace rp4 := rp4.st k12
  replace rp5 := rp5.st k12
  replace kk := kk.trans k12
  refine RW.seg hT 2 [] [(39, .bool (decide (¬ (x11 = true))))] [.bool (decide (¬ (x11 = true))), .bool (decide (¬ (x11 = true)))] [.veq (.bool (!x11)) (.bool (decide (¬ (x11 = true))))] (by kernel_rfl) (not_b) ?_
  refine RW.nil ?_
  by_cases h3 : ¬ (x11 = true)
  have hf := iteT h3 hf
  refine WPK.condT (Eq.trans (b := .bool (decide (¬ (x11 = true)))) (by kernel_rfl) (bo_t h3)) ?_
  refine WPK.seq ?_
  refine WPK.region ?_
  refine RW.seg hT 1 [] [] [.agg #[.bool false, .slice none 0 0, .slice none 0 0, .slice none 0 0]] [] (by kernel_rfl) (trivial) ?_
  refine RW.op (by kernel_rfl) (OK.store hT (i := 6) (b := b1) (off := 0) (n := 4) (vs := [.bool false, .slice none 0 0, .slice none 0 0, .slice none 0 0]) (cs := [.bool false, .slice none 0 0, .slice none 0 0, .slice none 0 0]) (e := 26) s (by kernel_rfl) rfl rfl (flat_ok rfl) (Nat.le_of_ble_eq_true rfl) ?_)
  clear s
  rintro w11 s k13 -
  replace e1 := e1.st k13
  replace e2 := e2.st k13
  replace rp5 := rp5.st k13
  replace rp2 := rp2.st k13
  replace rp3 := rp3.st k13
  replace rp4 := rp4.st k13
  replace kk := kk.trans k13
  refine RW.seg hT 1 [] [] [.int .i64 100] [] (by kernel_rfl) (trivial) ?_
  refine RW.nil ?_
  refine WPK.ret (?_)
  obtain rfl := someS hf
  refine Fin.of (rs := [.cell 4 26, .tmp 5]) hT [.agg #[.bool false, .slice none 0 0, .slice none 0 0, .slice none 0 0]] (.tuple #[.agg #[.bool false, .slice none 0 0, .slice none 0 0, .slice none 0 0], .int .i64 100]) [.cells ⟨b1, 0, none⟩ [.bool false, .slice none 0 0, .slice none 0 0, .slice none 0 0] 4] rfl (by kernel_rfl) (s.cells (i := 6) rfl rfl rfl) ?_
  replace s := s.pushNil 48 2
  replace s := s.pushNil 27 1
  replace s := s.pushNil 3 1
  replace s := s.pick [2, 1, 0] 10 rfl
  exact fun X h => vc rfl (h I7 none 0 0 [] none 0 0 [] none 0 0 [] _ s kk rfl (RepL.nil (r := rp_T_api_Pair)) rfl (RepL.nil (r := (Rp.slice (Rp.int .u8)))) rfl (RepL.nil (r := (Rp.int .i64))))
  have hf := iteF h3 hf
  refine WPK.condF (Eq.trans (b := .bool (decide (¬ (x11 = true)))) (by kernel_rfl) (bo_f h3)) ?_
  refine WPK.skip ?_
  refine WPK.seq ?_
  refine WPK.region ?_
  refine RW.seg hT 1 [.agg #[.bool x5, .slice A7 n5 u7, .slice A8 n6 u8, .slice A9 n7 u9]] [] [.agg #[.bool x5, .slice A7 n5 u7, .slice A8 n6 u8, .slice A9 n7 u9]] [.cells ⟨b2, 0, none⟩ [.bool x5, .slice A7 n5 u7, .slice A8 n6 u8, .slice A9 n7 u9] 4] (by kernel_rfl) (s.cells (i := 5) rfl rfl rfl) ?_
  refine RW.op (by kernel_rfl) (OK.store hT (i := 6) (b := b1) (off := 0) (n := 4) (vs := [.bool x5, .slice A7 n5 u7, .slice A8 n6 u8, .slice A9 n7 u9]) (cs := [.bool false, .slice none 0 0, .slice none 0 0, .slice none 0 0]) (e := 26) s (by kernel_rfl) rfl rfl (flat_ok rfl) (Nat.le_of_ble_eq_true rfl) ?_)
  clear s
  rintro w12 s k14 -
  replace e1 := e1.st k14
  replace e2 := e2.st k14
  replace rp5 := rp5.st k14
  replace rp2 := rp2.st k14
  replace rp3 := rp3.st k14
  replace rp4 := rp4.st k14
  replace kk := kk.trans k14
  refine RW.seg hT 1 [] [] [.int .i64 0] [] (by kernel_rfl) (trivial) ?_
  refine RW.nil ?_
  refine WPK.ret (?_)
  obtain rfl := someS hf
  refine Fin.of (rs := [.cell 4 26, .tmp 5]) hT [.agg #[.bool x5, .slice A7 n5 u7, .slice A8 n6 u8, .slice A9 n7 u9]] (.tuple #[.agg #[.bool x5, .slice A7 n5 u7, .slice A8 n6 u8, .slice A9 n7 u9], .int .i64 0]) [.cells ⟨b1, 0, none⟩ [.bool x5, .slice A7 n5 u7, .slice A8 n6 u8, .slice A9 n7 u9] 4] rfl (by kernel_rfl) (s.cells (i := 6) rfl rfl rfl) ?_
  replace s := s.pick [1, 2, 3] 7 rfl
  exact fun X h => vc rfl (h I7 A7 n5 u7 cl5 A8 n6 u8 cl6 A9 n7 u9 cl7 _ s kk hn2 rp2 hn3 rp3 hn4 rp4)
  refine WPK.seq ?_
  refine WPK.region ?_
  refine RW.seg hT 1 [] [] [.int .i64 p0] [] (by kernel_rfl) (trivial) ?_
  refine RW.nil ?_
  refine WPK.block ?_
  refine WPK.seq ?_
  refine WPK.region ?_
  refine RW.seg hT 2 [] [(16, .bool (decide (p0 = 3)))] [.bool (decide (p0 = 3)), .bool (decide (p0 = 3))] [.veq (.bool (p0 == 3)) (.bool (decide (p0 = 3)))] (by kernel_rfl) (eq_v) ?_
  refine RW.nil ?_
  by_cases h4 : p0 = 3
  have hf := iteT h4 hf
  refine WPK.condT (Eq.trans (b := .bool (decide (p0 = 3))) (by kernel_rfl) (bo_t h4)) ?_
  refine WPK.region ?_
  refine RW.seg hT 1 [] [] [.pointer (some ⟨b3, 0, none⟩)] [] (by kernel_rfl) (trivial) ?_
  obtain ⟨x12, hx5, hf⟩ := bindS hf
  refine RW.op (by kernel_rfl) (OK.call' en70 (by kernel_rfl) (c70 (F := (.blk b2 (.cells #[.bool false, .slice none 0 0, .slice none 0 0, .slice none 0 0] 26 (0, 0))) :: (.blk b1 (.cells #[.bool false, .slice none 0 0, .slice none 0 0, .slice none 0 0] 26 (0, 0))) :: F) x1 b3 A5 n4 u5 cl4 hn1 rp1 s hx5) ?_)
  intro X6 hX6
  refine fun _ _ hJ => hJ X6 ?_
  clear s
  intro I8 A11 n9 u11 cl9 A12 n10 u12 cl10 A13 n11 u13 cl11 A14 u14 w13 s k15 hn6 rp6 hn7 rp7 hn8 rp8 hc9 e7
  refine hX6 _ _ ?_
  replace e1 := e1.st k15
  replace rp1 := rp1.st k15
  replace kk := kk.trans k15
  refine RW.op (by kernel_rfl) (OK.store hT (i := 4) (b := b2) (off := 0) (n := 4) (vs := [.bool x12.1.Leaf, .slice A11 n9 u11, .slice A12 n10 u12, .slice A13 n11 u13]) (cs := [.bool false, .slice none 0 0, .slice none 0 0, .slice none 0 0]) (e := 26) s (by kernel_rfl) rfl rfl (flat_ok rfl) (Nat.le_of_ble_eq_true rfl) ?_)
  clear s
  rintro w14 s k16 -
  replace e1 := e1.st k16
  replace e7 := e7.st k16
  replace rp6 := rp6.st k16
  replace rp7 := rp7.st k16
  replace rp8 := rp8.st k16
  replace kk := kk.trans k16
  refine RW.nil ?_
  exact fun X h => kc (by kernel_rfl) rfl (h I8 x12.2.b x12.2.err x12.2.made x12.1.Leaf x12.1.Pairs x12.1.Keys x12.1.Kids A14 u14 A11 n9 u11 cl9 A12 n10 u12 cl10 A13 n11 u13 cl11 _ hf s kk e1 hc9 e7 hn6 rp6 hn7 rp7 hn8 rp8)
  have hf := iteF h4 hf
  refine WPK.condF (Eq.trans (b := .bool (decide (p0 = 3))) (by kernel_rfl) (bo_f h4)) ?_
  refine WPK.seq ?_
  refine WPK.region ?_
  refine RW.seg hT 2 [] [(20, .bool (decide (p0 = 4)))] [.bool (decide (p0 = 4)), .bool (decide (p0 = 4))] [.veq (.bool (p0 == 4)) (.bool (decide (p0 = 4)))] (by kernel_rfl) (eq_v) ?_
  refine RW.nil ?_
  by_cases h5 : p0 = 4
  have hf := iteT h5 hf
  refine WPK.condT (Eq.trans (b := .bool (decide (p0 = 4))) (by kernel_rfl) (bo_t h5)) ?_
  refine WPK.region ?_
  refine RW.seg hT 1 [] [] [.pointer (some ⟨b3, 0, none⟩)] [] (by kernel_rfl) (trivial) ?_
  obtain ⟨x13, hx6, hf⟩ := bindS hf
  refine RW.op (by kernel_rfl) (OK.call' en71 (by kernel_rfl) (c71 (F := (.blk b2 (.cells #[.bool false, .slice none 0 0, .slice none 0 0, .slice none 0 0] 26 (0, 0))) :: (.blk b1 (.cells #[.bool false, .slice none 0 0, .slice none 0 0, .slice none 0 0] 26 (0, 0))) :: F) x1 b3 A5 n4 u5 cl4 hn1 rp1 s hx6) ?_)
  intro X7 hX7
  refine fun _ _ hJ => hJ X7 ?_
  clear s
  intro I9 A15 n12 u15 cl12 A16 n13 u16 cl13 A17 n14 u17 cl14 A18 u18 w15 s k17 hn9 rp9 hn10 rp10 hn11 rp11 hc10 e8
  refine hX7 _ _ ?_
  replace e1 := e1.st k17
  replace rp1 := rp1.st k17
  replace kk := kk.trans k17
  refine RW.op (by kernel_rfl) (OK.store hT (i := 4) (b := b2) (off := 0) (n := 4) (vs := [.bool x13.1.Leaf, .slice A15 n12 u15, .slice A16 n13 u16, .slice A17 n14 u17]) (cs := [.bool false, .slice none 0 0, .slice none 0 0, .slice none 0 0]) (e := 26) s (by kernel_rfl) rfl rfl (flat_ok rfl) (Nat.le_of_ble_eq_true rfl) ?_)
  clear s
  rintro w16 s k18 -
  replace e1 := e1.st k18
  replace e8 := e8.st k18
  replace rp9 := rp9.st k18
  replace rp10 := rp10.st k18
  replace rp11 := rp11.st k18
  replace kk := kk.trans k18
  refine RW.nil ?_
  exact fun X h => kc (by kernel_rfl) rfl (h I9 x13.2.b x13.2.err x13.2.made x13.1.Leaf x13.1.Pairs x13.1.Keys x13.1.Kids A18 u18 A15 n12 u15 cl12 A16 n13 u16 cl13 A17 n14 u17 cl14 _ hf s kk e1 hc10 e8 hn9 rp9 hn10 rp10 hn11 rp11)
  have hf := iteF h5 hf
  refine WPK.condF (Eq.trans (b := .bool (decide (p0 = 4))) (by kernel_rfl) (bo_f h5)) ?_
  refine WPK.seq ?_
  refine WPK.region ?_
  refine RW.seg hT 1 [.agg #[.bool false, .slice none 0 0, .slice none 0 0, .slice none 0 0]] [] [.agg #[.bool false, .slice none 0 0, .slice none 0 0, .slice none 0 0]] [.cells ⟨b2, 0, none⟩ [.bool false, .slice none 0 0, .slice none 0 0, .slice none 0 0] 4] (by kernel_rfl) (s.cells (i := 2) rfl rfl rfl) ?_
  refine RW.op (by kernel_rfl) (OK.store hT (i := 3) (b := b1) (off := 0) (n := 4) (vs := [.bool false, .slice none 0 0, .slice none 0 0, .slice none 0 0]) (cs := [.bool false, .slice none 0 0, .slice none 0 0, .slice none 0 0]) (e := 26) s (by kernel_rfl) rfl rfl (flat_ok rfl) (Nat.le_of_ble_eq_true rfl) ?_)
  clear s
  rintro w17 s k19 -
  replace e1 := e1.st k19
  replace rp1 := rp1.st k19
  replace kk := kk.trans k19
  refine RW.seg hT 1 [] [] [.int .i64 42] [] (by kernel_rfl) (trivial) ?_
  refine RW.nil ?_
  refine WPK.ret (blockQ.ret (?_))
  obtain rfl := someS hf
  refine Fin.of (rs := [.cell 4 26, .tmp 5]) hT [.agg #[.bool false, .slice none 0 0, .slice none 0 0, .slice none 0 0]] (.tuple #[.agg #[.bool false, .slice none 0 0, .slice none 0 0, .slice none 0 0], .int .i64 42]) [.cells ⟨b1, 0, none⟩ [.bool false, .slice none 0 0, .slice none 0 0, .slice none 0 0] 4] rfl (by kernel_rfl) (s.cells (i := 3) rfl rfl rfl) ?_
  replace s := s.pushNil 48 2
  replace s := s.pushNil 27 1
  replace s := s.pushNil 3 1
  replace s := s.pick [2, 1, 0] 7 rfl
  exact fun X h => vc rfl (h I1 none 0 0 [] none 0 0 [] none 0 0 [] _ s kk rfl (RepL.nil (r := rp_T_api_Pair)) rfl (RepL.nil (r := (Rp.slice (Rp.int .u8)))) rfl (RepL.nil (r := (Rp.int .i64))))
theorem c73 {w1 w : World} {M I : Nat → Prop} {F : List It} (p0 : T_incipitref10_taker) (b1 : Nat) (A1 : Option Addr) (u1 : Nat) (hc1 : (p0.b.length ≤ u1 ∧ u1 ≤ 9223372036854775807)) (e1 : Elems (Rp.int .u8) I w A1 p0.b) (s : St w1 M I ((.blk b1 (.cells #[.slice A1 p0.b.length u1, .int .i64 p0.at_] 89 (0, 0))) :: F) w) {r : (Int × T_incipitref10_taker)} (hf : g73 p0 = some r) :
    Ret Try.prog 73 [.pointer (some ⟨b1, 0, none⟩)] w fun v wz => ∀ X : Value → World → Prop, (∀ (I' : Nat → Prop) (A2 : Option Addr) (u2 : Nat) (w' : World), St w1 M I' ((.blk b1 (.cells #[.slice A2 r.2.b.length u2, .int .i64 r.2.at_] 89 (0, 0))) :: F) w' → Kp I w I' w' → (r.2.b.length ≤ u2 ∧ u2 ≤ 9223372036854775807) → Elems (Rp.int .u8) I' w' A2 r.2.b → X (.int .i64 r.1) w') → X v wz := by
  have kk : Kp I w I w := Kp.refl
  unfold g73 at hf
  refine Ret.of Try.func73 rfl ?_
  refine WPK.seq ?_
  refine WPK.region ?_
  refine RW.seg hT 1 [] [] [.int .i64 0] [] (by kernel_rfl) (trivial) ?_
  refine RW.nil ?_
  refine WPK.seq ?_
  refine WPK.region ?_
  refine RW.seg hT 7 [.int .i64 p0.at_] [] [.pointer (some ⟨b1, 0, none⟩), .pointer (some ⟨b1, 0, none⟩), .pointer (some ⟨b1, 1, none⟩), .int .i64 p0.at_, .int .i64 (IntKind.i64.wrap (p0.at_ + 1)), .pointer (some ⟨b1, 0, none⟩), .pointer (some ⟨b1, 1, none⟩)] [.cell ⟨b1, 1, none⟩ (.int .i64 p0.at_)] (by kernel_rfl) (s.cell (i := 0) (off := 1) rfl rfl) ?_
  refine RW.op (by kernel_rfl) (OK.store hT (i := 0) (b := b1) (off := 1) (n := 1) (vs := [.int .i64 (IntKind.i64.wrap (p0.at_ + 1))]) (cs := [.slice A1 p0.b.length u1, .int .i64 p0.at_]) (e := 89) s (by kernel_rfl) rfl rfl (flat_ok rfl) (Nat.le_of_ble_eq_true rfl) ?_)
  clear s
  rintro w2 s k1 -
  replace e1 := e1.st k1
  replace kk := kk.trans k1
  refine RW.nil ?_
  refine WPK.seq ?_
  refine WPK.seq ?_
  have e1S1 := e1
  have kS1 : Kp I w2 I w2 := Kp.refl
  refine WPK.drawM (fun w' => ∃ I' : Nat → Prop, St w1 M I' ((.blk b1 (.cells #[.slice A1 p0.b.length u1, .int .i64 (IntKind.i64.wrap (p0.at_ + 1))] 89 (0, 0))) :: F) w' ∧ Kp I w2 I' w') 10 [0, 1, 3, 7, 0, 16, 48, 112, 240, 511] (by kernel_rfl) (by kernel_rfl) ?_
  intro ht1 w3 hd1
  have k2 := Kp.dr s hd1
  replace s := s.dr hd1
  replace e1 := e1.st k2
  replace kk := kk.trans k2
  replace kS1 := kS1.trans k2
  refine RD.segM hT ht1 (by kernel_rfl) [0, 1, 2, 3, 4, 5, 6, 7, 8, 9] [.int .i64 (IntKind.i64.wrap (p0.at_ + 1)), .slice A1 p0.b.length u1] [] [.pointer (some ⟨b1, 0, none⟩), .pointer (some ⟨b1, 0, none⟩), .pointer (some ⟨b1, 1, none⟩), .int .i64 (IntKind.i64.wrap (p0.at_ + 1)), .pointer (some ⟨b1, 0, none⟩), .pointer (some ⟨b1, 0, none⟩), .pointer (some ⟨b1, 0, none⟩), .slice A1 p0.b.length u1, .int .i64 (p0.b.length : Int), .bool (decide ((IntKind.i64.wrap (p0.at_ + 1)) > (p0.b.length : Int)))] [.cell ⟨b1, 1, none⟩ (.int .i64 (IntKind.i64.wrap (p0.at_ + 1))), .cell ⟨b1, 0, none⟩ (.slice A1 p0.b.length u1)] (by kernel_rfl) (by rintro w' ⟨I', s, k⟩; have e1 := e1S1.st k; exact ⟨s.cell (i := 0) (off := 1) rfl rfl, s.cell (i := 0) (off := 0) rfl rfl⟩) ⟨_, s.pick [0] 1 rfl, kS1⟩ ?_
  refine RD.done (by kernel_rfl) ?_
  by_cases h1 : (IntKind.i64.wrap (p0.at_ + 1)) > (p0.b.length : Int)
  have hf := iteT h1 hf
  refine WPK.condT (Eq.trans (b := .bool (decide ((IntKind.i64.wrap (p0.at_ + 1)) > (p0.b.length : Int)))) (by kernel_rfl) (bo_t h1)) ?_
  refine WPK.seq ?_
  refine WPK.region ?_
  refine RW.seg hT 1 [] [] [.int .i64 0] [] (by kernel_rfl) (trivial) ?_
  refine RW.nil ?_
  refine WPK.ret (?_)
  obtain rfl := someS hf
  refine Fin.of (rs := [.tmp 2]) hT [] (.int .i64 0) [] rfl (by kernel_rfl) (trivial) ?_
  exact fun X h => vc rfl (h I A1 u1 _ s kk hc1 e1)
  have hf := iteF h1 hf
  refine WPK.condF (Eq.trans (b := .bool (decide ((IntKind.i64.wrap (p0.at_ + 1)) > (p0.b.length : Int)))) (by kernel_rfl) (bo_f h1)) ?_
  refine WPK.skip ?_
  refine WPK.seq ?_
  have e1S2 := e1
  have kS2 : Kp I w3 I w3 := Kp.refl
  refine WPK.drawM (fun w' => ∃ I' : Nat → Prop, St w1 M I' ((.blk b1 (.cells #[.slice A1 p0.b.length u1, .int .i64 (IntKind.i64.wrap (p0.at_ + 1))] 89 (0, 0))) :: F) w' ∧ Kp I w3 I' w') 13 [0, 1, 3, 7, 0, 16, 48, 112, 240, 511, 1023, 2047, 4095] (by kernel_rfl) (by kernel_rfl) ?_
  intro ht2 w4 hd2
  have k3 := Kp.dr s hd2
  replace s := s.dr hd2
  replace e1 := e1.st k3
  replace kk := kk.trans k3
  replace kS2 := kS2.trans k3
  obtain ⟨x1, hx1, hf⟩ := bindS hf
  obtain ⟨h2, hx1⟩ := getS hx1
  obtain ⟨b2, o1, rfl⟩ := Elems.opn e1 hx1
  obtain ⟨cs1, hr1, ha1, hb1⟩ := Elems.getI e1S2 hx1
  obtain rfl : cs1 = [.int .u8 x1] := hr1
  refine RD.segM hT ht2 (by kernel_rfl) [0, 1, 2, 3, 4, 5, 6, 7, 8, 9, 10, 11, 12] [.slice (some ⟨b2, o1, none⟩) p0.b.length u1, .int .i64 (IntKind.i64.wrap (p0.at_ + 1)), .int .u8 x1, undef] [] [.pointer (some ⟨b1, 0, none⟩), .pointer (some ⟨b1, 0, none⟩), .pointer (some ⟨b1, 0, none⟩), .slice (some ⟨b2, o1, none⟩) p0.b.length u1, .pointer (some ⟨b1, 0, none⟩), .pointer (some ⟨b1, 0, none⟩), .pointer (some ⟨b1, 1, none⟩), .int .i64 (IntKind.i64.wrap (p0.at_ + 1)), .int .i64 (IntKind.i64.wrap ((IntKind.i64.wrap (p0.at_ + 1)) - 1)), .pointer (some ⟨b2, o1 + (IntKind.i64.wrap ((IntKind.i64.wrap (p0.at_ + 1)) - 1)).toNat * 1, none⟩), .int .u8 x1, .int .i64 (IntKind.i64.wrap x1), .int .i64 (IntKind.i64.wrap x1)] [.cell ⟨b1, 0, none⟩ (.slice (some ⟨b2, o1, none⟩) p0.b.length u1), .cell ⟨b1, 1, none⟩ (.int .i64 (IntKind.i64.wrap (p0.at_ + 1))), .idx (IntKind.i64.wrap ((IntKind.i64.wrap (p0.at_ + 1)) - 1)) p0.b.length, .cell ⟨b2, o1 + (IntKind.i64.wrap ((IntKind.i64.wrap (p0.at_ + 1)) - 1)).toNat * 1, none⟩ (.int .u8 x1)] (by kernel_rfl) (by rintro w' ⟨I', s, k⟩; have e1 := e1S2.st k; have ha1 := ha1.st k hb1; exact ⟨s.cell (i := 0) (off := 0) rfl rfl, s.cell (i := 0) (off := 1) rfl rfl, h2, ha1 0 _ rfl⟩) ⟨_, s.pick [0] 1 rfl, kS2⟩ ?_
  refine RD.done (by kernel_rfl) ?_
  refine WPK.ret (?_)
  obtain rfl := someS hf
  refine Fin.of (rs := [.tmp 2]) hT [] (.int .i64 (IntKind.i64.wrap x1)) [] rfl (by kernel_rfl) (trivial) ?_
  exact fun X h => vc rfl (h I (some ⟨b2, o1, none⟩) u1 _ s kk hc1 e1)
theorem c74 {w1 w : World} {M I : Nat → Prop} {F : List It} (p0 : T_incipitref10_taker) (p1 : Int) (b1 : Nat) (A1 : Option Addr) (u1 : Nat) (hc1 : (p0.b.length ≤ u1 ∧ u1 ≤ 9223372036854775807)) (e1 : Elems (Rp.int .u8) I w A1 p0.b) (s : St w1 M I ((.blk b1 (.cells #[.slice A1 p0.b.length u1, .int .i64 p0.at_] 89 (0, 0))) :: F) w) {r : ((List Int) × T_incipitref10_taker)} (hf : g74 p0 p1 = some r) :
    Ret Try.prog 74 [.pointer (some ⟨b1, 0, none⟩), .int .i64 p1] w fun v wz => ∀ X : Value → World → Prop, (∀ (I' : Nat → Prop) (A2 : Option Addr) (n1 : Nat) (u2 : Nat) (cl1 : List Value) (A3 : Option Addr) (u3 : Nat) (w' : World), St w1 M I' ((.sl (.slice A2 n1 u2) 5 1 n1 cl1) :: (.blk b1 (.cells #[.slice A3 r.2.b.length u3, .int .i64 r.2.at_] 89 (0, 0))) :: F) w' → Kp I w I' w' → n1 = r.1.length → RepL (Rp.int .u8) I' w' cl1 r.1 → (r.2.b.length ≤ u3 ∧ u3 ≤ 9223372036854775807) → Elems (Rp.int .u8) I' w' A3 r.2.b → X (.slice A2 n1 u2) w') → X v wz := by
  have kk : Kp I w I w := Kp.refl
  unfold g74 at hf
  refine Ret.of Try.func74 rfl ?_
  refine WPK.seq ?_
  refine WPK.region ?_
  refine RW.seg hT 1 [] [] [.slice none 0 0] [] (by kernel_rfl) (trivial) ?_
  refine RW.nil ?_
  refine WPK.seq ?_
  refine WPK.region ?_
  refine RW.seg hT 1 [] [] [.slice none 0 0] [] (by kernel_rfl) (trivial) ?_
  refine RW.nil ?_
  refine WPK.seq ?_
  refine WPK.seq ?_
  refine WPK.region ?_
  refine RW.seg hT 1 [] [] [.int .i64 0] [] (by kernel_rfl) (trivial) ?_
  refine RW.nil ?_
  refine WPK.block ?_
  replace s := s.pushNil 5 1
  replace s := s.pick [1, 0] 2 rfl
  refine WPK.loop' (J := fun n2 D1 ds wz => ∀ X : Kont, (∀ (I1 : Nat → Prop) (x1 : (List Int)) (x2 : Int) (x3 : (List Int)) (x4 : Int) (A4 : Option Addr) (u4 : Nat) (cl2 : List Value) (A5 : Option Addr) (u5 : Nat) (w' : World), g74_l1 p1 n2 x1 x2 x3 x4 = some r → St w1 M I1 ((.blk b1 (.cells #[.slice A5 x3.length u5, .int .i64 x4] 89 (0, 0))) :: (.sl (.slice A4 x1.length u4) 5 1 x1.length cl2) :: F) w' → Kp I w I1 w' → RepL (Rp.int .u8) I1 w' cl2 x1 → (x3.length ≤ u5 ∧ u5 ≤ 9223372036854775807) → Elems (Rp.int .u8) I1 w' A5 x3 → X [.pointer (some ⟨b1, 0, none⟩), .int .i64 p1, (D1.getD 2 undef), (D1.getD 3 undef), .slice none 0 0, .slice A4 x1.length u4, .int .i64 x2, (D1.getD 7 undef), (D1.getD 8 undef), (D1.getD 9 undef), (D1.getD 10 undef), (D1.getD 11 undef), (D1.getD 12 undef), (D1.getD 13 undef), (D1.getD 14 undef), (D1.getD 15 undef), (D1.getD 16 undef), (D1.getD 17 undef), undef] [] w') → X D1 ds wz) FUEL (fun X h => kc (by kernel_rfl) rfl (h I ([] : List Int) 0 p0.b p0.at_ none 0 [] A1 u1 _ hf s kk (RepL.nil (r := (Rp.int .u8))) hc1 e1)) (fun _ _ _ hJ => hJ (fun _ _ _ => False) (by intro I1 x1 x2 x3 x4 A4 u4 cl2 A5 u5 w2 hf s kk rp1 hc2 e2; exact noneS hf)) ?_
  intro X1 hX1
  refine fun n2 D1 _ _ hJ => hJ (X1 n2) ?_
  clear s
  intro I1 x1 x2 x3 x4 A4 u4 cl2 A5 u5 w2 hf s kk rp1 hc2 e2
  refine hX1 _ _ _ _ ?_
  replace hf : g74_l1B p1 (g74_l1 p1 n2) x1 x2 x3 x4 = some r := hf
  generalize hrec1 : g74_l1 p1 n2 = rec1 at hf
  unfold g74_l1B at hf
  refine WPK.seq ?_
  refine WPK.seq ?_
  refine WPK.region ?_
  refine RW.seg hT 3 [] [] [.int .i64 x2, .int .i64 p1, .bool (decide (x2 < p1))] [] (by kernel_rfl) (trivial) ?_
  refine RW.nil ?_
  by_cases h1 : x2 < p1
  have hf := iteT h1 hf
  refine WPK.condT (Eq.trans (b := .bool (decide (x2 < p1))) (by kernel_rfl) (bo_t h1)) ?_
  refine WPK.skip ?_
  refine WPK.seq ?_
  refine WPK.block ?_
  refine WPK.region ?_
  refine RW.seg hT 2 [] [] [.slice A4 x1.length u4, .pointer (some ⟨b1, 0, none⟩)] [] (by kernel_rfl) (trivial) ?_
  obtain ⟨x5, hx1, hf⟩ := bindS hf
  refine RW.op (by kernel_rfl) (OK.call' en73 (by kernel_rfl) (c73 (F := (.sl (.slice A4 x1.length u4) 5 1 x1.length cl2) :: F) (T_incipitref10_taker.mk x3 x4) b1 A5 u5 hc2 e2 s hx1) ?_)
  intro X2 hX2
  refine fun _ _ hJ => hJ X2 ?_
  clear s
  intro I2 A6 u6 w3 s k1 hc3 e3
  refine hX2 _ _ ?_
  replace e2 := e2.st k1
  replace rp1 := rp1.st k1
  replace kk := kk.trans k1
  refine RW.seg hT 1 [undef] [] [.int .u8 (IntKind.u8.wrap x5.1)] [] (by kernel_rfl) (trivial) ?_
  refine RW.op (by kernel_rfl) (OK.new hT (f := fun b => .slice (some ⟨b, 0, none⟩) 1 1) (cs := [.int .u8 (IntKind.u8.wrap x5.1)]) (e := 5) (c := .tt) s (by kernel_rfl) trivial ?_)
  clear s
  rintro w4 b2 s k2 -
  replace e3 := e3.st k2
  replace rp1 := rp1.st k2
  replace kk := kk.trans k2
  have rp2 : RepL (Rp.int .u8) I2 w4 [.int .u8 (IntKind.u8.wrap x5.1)] ([IntKind.u8.wrap x5.1] : List Int) := RepL.cons (c := [.int .u8 (IntKind.u8.wrap x5.1)]) (d := []) (rfl) (RepL.nil)
  replace s : St w1 M I2 ((.sl (.slice (some ⟨b2, 0, none⟩) 1 1) 5 1 1 [.int .u8 (IntKind.u8.wrap x5.1)]) :: (.blk b1 (.cells #[.slice A6 x5.2.b.length u6, .int .i64 x5.2.at_] 89 (0, 0))) :: (.sl (.slice A4 x1.length u4) 5 1 x1.length cl2) :: F) w4 := s.blkSl (i := 0) (n := 1) (c := 1) (size := 1) rfl rfl (Nat.le_refl _) (by decide)
  have hs1 := St.src s (i := 0) rfl rfl rp2
  have rq1 := rp2
  obtain ⟨x6, hx2, hf⟩ := bindS hf
  refine RW.op (by kernel_rfl) (OK.app hT (r := (Rp.int .u8)) (i := 2) (t := 27) (e := 5) (size := 1) (bytes := 1) (c := u4) (n := x1.length) (m := 1) s (by kernel_rfl) rfl rfl rfl rfl rfl (by decide) rfl rfl rfl rfl rp1 hs1 rq1 flat_int rfl hx2 ?_)
  clear s
  rintro A7 u7 cl3 w5 s k3 rp3
  replace e3 := e3.st k3
  replace rp2 := rp2.st k3
  replace rp1 := rp1.st k3
  replace kk := kk.trans k3
  refine RW.seg hT 1 [] [] [.slice A7 x6.length u7] [] (by kernel_rfl) (trivial) ?_
  refine RW.nil ?_
  refine WPK.region ?_
  refine RW.seg hT 3 [] [] [.int .i64 x2, .int .i64 (IntKind.i64.wrap (x2 + 1)), .int .i64 (IntKind.i64.wrap (x2 + 1))] [] (by kernel_rfl) (trivial) ?_
  refine RW.nil ?_
  subst hrec1
  replace s := s.pick [1, 2] 3 rfl
  exact ⟨n2, Nat.le_refl _, fun X h => kc (by kernel_rfl) rfl (h I2 x6 (IntKind.i64.wrap (x2 + 1)) x5.2.b x5.2.at_ A7 u7 cl3 A6 u6 _ hf s kk rp3 hc3 e3)⟩
  have hf := iteF h1 hf
  refine WPK.condF (Eq.trans (b := .bool (decide (x2 < p1))) (by kernel_rfl) (bo_f h1)) ?_
  refine WPK.exit (blockQ.same ?_)
  refine WPK.seq ?_
  refine WPK.region ?_
  refine RW.seg hT 2 [] [] [.slice A4 x1.length u4, .slice A4 x1.length u4] [] (by kernel_rfl) (trivial) ?_
  refine RW.nil ?_
  refine WPK.ret (?_)
  obtain rfl := someS hf
  refine Fin.of (rs := [.tmp 4]) hT [] (.slice A4 x1.length u4) [] rfl (by kernel_rfl) (trivial) ?_
  replace s := s.pick [1, 0] 2 rfl
  exact fun X h => vc rfl (h I1 A4 x1.length u4 cl2 A5 u5 _ s kk rfl rp1 hc2 e2)
end Go.Proofs.Ytefjbhogpgihaaa
